/- The contracts of cron.day and cron.Match. -/
import Derived.Test.YthelnkoohbnjpaaDoorCronK
set_option linter.unusedVariables false
set_option linter.unusedSimpArgs false
namespace Go.Proofs.YthelnkoohbnjpaaDoor
open Go.RowKit
set_option linter.unusedVariables false

/-- a date and time as a value -/
def civ (y mo d h mi s wk : Int) : Value := .agg #[.int .i64 y, .int .i64 mo, .int .i64 d, .int .i64 h, .int .i64 mi, .int .i64 s, .int .i64 wk]
def Cr.day (c : Cr) (mo d wk : Int) : Bool := hasB c.mo mo && (if c.ad || c.aw then hasB c.d d && hasB c.wk wk else hasB c.d d || hasB c.wk wk)
def Cr.fit (c : Cr) (mo d h mi wk : Int) : Bool := c.day mo d wk && hasB c.h h && hasB c.mi mi
/-- a word of 64 bits -/
def Word (s : Nat) : Prop := s < 18446744073709551616
theorem cronHas' (s : Nat) (n : Int) (w : World) (hs : Word s) : Calls Tryd.prog 39 #[.int .u64 (s : Int), .int .i64 n] w fun e w' => e = .returned (.bool (hasB s n)) ∧ w' = w :=
  (cronHas s n w hs).mono fun _ _ ⟨a, b⟩ => ⟨a, b.symm⟩

theorem bcell {W w1 : World} (hb : Below W.heap.size W w1) : (∀ b o, b < W.heap.size → w1.cell? ⟨b, o, none⟩ = W.cell? ⟨b, o, none⟩) ∧ (∀ b o, b < W.heap.size → w1.frozen? ⟨b, o, none⟩ = W.frozen? ⟨b, o, none⟩) :=
  ⟨fun b o h => hb.cell (p := ⟨b, o, none⟩) h, fun b o h => hb.frozen (p := ⟨b, o, none⟩) h⟩

set_option maxRecDepth 100000 in
set_option maxHeartbeats 3200000 in
theorem cronDay (c : Cr) (hf : c.fits) (y mo d h mi s wk : Int) (w : World) : Calls Tryd.prog 38 #[.agg c.cells, civ y mo d h mi s wk] w fun e w' => e = .returned (.bool (c.day mo d wk)) ∧ Below w.heap.size w w' := by
  obtain ⟨ci, ch, cd, cm, cw, ad, aw⟩ := c
  obtain ⟨f0, f1, f2, f3, f4⟩ := hf
  have F2 : Word cd := f2; have F3 : Word cm := f3; have F4 : Word cw := f4
  clear f0 f1 f2 f3 f4
  unfold Cr.cells civ
  go_enter Tryd.func38, Tryd.ntmps38
  go_wp2_with fail
  go_quiet ((go_at_call 39; exact Calls.quiet_of_same (cronHas' _ _ _ (by assumption))))
  cases ad <;> cases aw
  all_goals
    go_wp2_with fail
    refine (cronHas cm mo _ F3).mono ?_
    rintro e w' ⟨rfl, rfl⟩
    cases hm : hasB cm mo
    · go_wp2_with fail
      go_ret
      exact ⟨by simp [Cr.day, hm], below_drewN (((Below.refl _ _).alloc (Nat.le_refl _) _).alloc (by simp) _) _⟩
    · cases ha : hasB cd d <;> cases hb : hasB cw wk
      all_goals
        go_wp2_with fail
        go_ret
        exact ⟨by simp [Cr.day, hm, ha, hb], below_drewN (((Below.refl _ _).alloc (Nat.le_refl _) _).alloc (by simp) _) _⟩

def civ7 (y mo d h mi s wk : Int) : Array Value := #[.int .i64 y, .int .i64 mo, .int .i64 d, .int .i64 h, .int .i64 mi, .int .i64 s, .int .i64 wk]
/-- what Match answers: whether it fits, and what is wrong with the cron -/
def Cr.match (c : Cr) (mo d h mi wk : Int) : Bool := c.ok && c.fit mo d h mi wk
set_option maxRecDepth 100000 in
set_option maxHeartbeats 3200000 in
theorem cronMatch (c : Cr) (hf : c.fits) (y mo d h mi s wk : Int) (w : World) : Calls Tryd.prog 15 #[.agg c.cells, civ y mo d h mi s wk] w fun e w' => e = .returned (.tuple #[.bool (c.match mo d h mi wk), .int .i64 c.err]) ∧ Below w.heap.size w w' := by
  obtain ⟨ci, ch, cd, cm, cw, ad, aw⟩ := c
  have F0 : Word ci := hf.1; have F1 : Word ch := hf.2.1
  have HF := Lib.hid hf
  clear hf
  unfold Cr.cells civ
  go_enter Tryd.func15, Tryd.ntmps15
  go_wp2_with fail
  refine (cronCheck ⟨ci, ch, cd, cm, cw, ad, aw⟩ HF.out _).mono ?_
  rintro e w1 ⟨rfl, hb1⟩
  have hB1 : Below w.heap.size w w1 := ((((Below.refl _ _).alloc (Nat.le_refl _) _).alloc (by simp) _)).trans (hb1.mono (by simp; omega))
  cases hok : Cr.ok ⟨ci, ch, cd, cm, cw, ad, aw⟩
  · rw [Cr.err_no hok]
    go_wp2_with fail
    go_ret2
    exact ⟨by simp [Cr.match, Cr.err, hok], hB1⟩
  · rw [Cr.err_yes hok]
    obtain ⟨hc1, _⟩ := bcell hb1
    have hz1 : w.heap.size + 1 < w1.heap.size := by have := hb1.size; simp at this; omega
    clear hb1
    go_wp2_with fail
    refine (cronDay ⟨ci, ch, cd, cm, cw, ad, aw⟩ HF.out y mo d h mi s wk _).mono ?_
    rintro e w2 ⟨rfl, hb2⟩
    have hB2 : Below w.heap.size w w2 := hB1.trans (hb2.mono hB1.size)
    obtain ⟨hc2, _⟩ := bcell hb2
    have hz0 : w.heap.size < w1.heap.size := by omega
    clear hb2
    cases hd : Cr.day ⟨ci, ch, cd, cm, cw, ad, aw⟩ mo d wk
    · go_wp2_with fail
      go_ret2
      exact ⟨by simp [Cr.match, Cr.fit, Cr.err, hok, hd], hB2⟩
    · go_wp2_with fail
      refine (cronHas ch h _ F1).mono ?_
      rintro e w' ⟨rfl, rfl⟩
      cases hh : hasB ch h
      · go_wp2_with fail
        go_ret2
        exact ⟨by simp [Cr.match, Cr.fit, Cr.err, hok, hd, hh], hB2⟩
      · go_wp2_with fail
        refine (cronHas ci mi _ F0).mono ?_
        rintro e w' ⟨rfl, rfl⟩
        go_wp2_with fail
        go_ret2
        exact ⟨by simp [Cr.match, Cr.fit, Cr.err, hok, hd, hh], hB2⟩
end Go.Proofs.YthelnkoohbnjpaaDoor
