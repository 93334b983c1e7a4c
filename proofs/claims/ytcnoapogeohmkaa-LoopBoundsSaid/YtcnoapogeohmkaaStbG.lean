/- stable: New; the small check 'slow'; the laws StableBetween and StableFree, walked. -/
import Derived.Test.YtcnoapogeohmkaaStbF
import Derived.Test.YtcnoapogeohmkaaOpenRows
set_option linter.unusedVariables false
set_option linter.unusedSimpArgs false
namespace Go.Proofs.Ytcnoapogeohmkaa
open Go.RowKit
set_option linter.unusedVariables false

theorem settle_ok {s : Tide.Stb} {j : Nat} {now have0 want : Int} (h : s.ok j) : (Tide.settleS s now have0 want).ok (j + 1) := by
  unfold Tide.settleS
  cases hk : Tide.settleOk s now have0 want
  · simp only [Bool.false_eq_true, if_false]
    exact ⟨h.up, h.down, h.last0, h.last1, h.wan, h.mov, h.wsort, h.msort, Nat.le_succ_of_le h.wlen, Nat.le_succ_of_le h.mlen⟩
  · simp only [if_true]
    have h1 := Stb.ok_seen h hk
    split
    · exact h1
    · have hb := hk
      unfold Tide.settleOk at hb
      simp only [Bool.and_eq_true, decide_eq_true_eq] at hb
      obtain ⟨⟨⟨a1, a2⟩, a3, a4⟩, a5, a6⟩ := hb
      have := settleN0_bd (s.seen now want) now have0 want (fun m hm => (h1.wan m hm).1) a3 a4 a5 a6
      exact Stb.ok_went (s := s.seen now want) h1 (by omega) (by omega) (by show s.moved.length + 1 ≤ _; have := h.mlen; omega)
def Tide.newStb (u d : Tide.Pace) : Tide.Stb := ⟨u.fix, d.fix, 0, [], []⟩
theorem newStb_ok (u d : Tide.Pace) : (Tide.newStb u d).ok 0 := ⟨u.fix_ok, d.fix_ok, by show (0 : Int) ≤ 0; omega, by show (0 : Int) ≤ _; omega, by simp [Tide.newStb], by simp [Tide.newStb], List.Pairwise.nil, List.Pairwise.nil, Nat.le_refl _, Nat.le_refl _⟩
/-- one thing in memory of the call's own -/
structure Solo (w0 w : World) (S : Nat → Prop) : Prop where
  own : ∀ b, S b → w0.heap.size ≤ b
  below : Below w0.heap.size w0 w
theorem Solo.next {w0 w w1 : World} {S : Nat → Prop} (h : Solo w0 w S) (hc : Tide.Chg S w w1) : Solo w0 w1 (Tide.Plus S w w1) :=
  ⟨fun b hb => by
      have := h.below.size
      rcases hb with hb | hb
      · exact h.own b hb
      · omega, h.below.trans (hc.below h.below.size (fun k hk hS => by have := h.own k hS; omega))⟩
theorem Solo.alloc {w0 w : World} {S : Nat → Prop} (h : Solo w0 w S) (o : Obj) : Solo w0 (w.alloc o) S := ⟨h.own, h.below.alloc h.below.size o⟩
theorem Solo.below_ {w0 w w1 : World} {S : Nat → Prop} (h : Solo w0 w S) (hb : Below w.heap.size w w1) : Solo w0 w1 S := ⟨h.own, h.below.trans (hb.mono h.below.size)⟩
def NewStbPost (T TM : TypeId) (w : World) (s : Tide.Stb) (e : Ending) (w' : World) : Prop := ∃ g, e = .returned (.pointer (some ⟨g, 0, none⟩)) ∧ StbAt T TM (Tide.Plus (fun _ => False) w w') w' g s (.slice none 0 0) (.slice none 0 0) ∧ Below w.heap.size w w'
theorem stb_made {T TM : TypeId} {w w1 : World} {s : Tide.Stb} (hb : Below w.heap.size w w1) (h1 : s.wanted = []) (h2 : s.moved = []) :
    NewStbPost T TM w s (.returned (.pointer (some ⟨w1.heap.size, 0, none⟩))) (w1.alloc (.cells #[.int .i64 s.up.win, .int .i64 s.up.pods, .int .i64 s.up.pct, .int .i64 s.up.per, .int .i64 s.down.win, .int .i64 s.down.pods, .int .i64 s.down.pct, .int .i64 s.down.per, .int .i64 s.last, .slice none 0 0, .slice none 0 0] T)) :=
  ⟨_, rfl, ⟨Tide.At.made _ _ _, by rw [h1]; exact Tide.OwnRow.nil _ _ _ _, by rw [h2]; exact Tide.OwnRow.nil _ _ _ _, fun b hb => by simp [Value.ownBlock] at hb, .inr ⟨hb.size, by simp⟩, fun b hb => by rcases hb with hb | hb; exact hb.elim; exact hb.2⟩, hb.alloc hb.size _⟩
theorem _root_.Go.RowKit.Below.cell_frozen {W w1 : World} (hb : Below W.heap.size W w1) : (∀ b o, b < W.heap.size → w1.cell? ⟨b, o, none⟩ = W.cell? ⟨b, o, none⟩) ∧ (∀ b o, b < W.heap.size → w1.frozen? ⟨b, o, none⟩ = W.frozen? ⟨b, o, none⟩) :=
  ⟨fun b o h => hb.cell (p := ⟨b, o, none⟩) h, fun b o h => hb.frozen (p := ⟨b, o, none⟩) h⟩
theorem right4 (a b c d : Int) (w0 W : World) (h : Below w0.heap.size w0 W) : Calls Try.prog 44 #[.agg #[.int .i64 a, .int .i64 b, .int .i64 c, .int .i64 d]] W fun e w' => e = .returned (.agg #[.int .i64 (Tide.clipT a), .int .i64 (Tide.clipT b), .int .i64 (Tide.clipT c), .int .i64 (Tide.clipT d)]) ∧ Below w0.heap.size w0 w' ∧ (∀ b o, b < W.heap.size → w'.cell? ⟨b, o, none⟩ = W.cell? ⟨b, o, none⟩) :=
  (stbRight ⟨a, b, c, d⟩ W).mono fun _ _ ⟨he, hb⟩ => ⟨he, h.trans (hb.mono h.size), hb.cell_frozen.1⟩
set_option maxRecDepth 100000 in
set_option maxHeartbeats 1600000 in
theorem stbNew (u d : Tide.Pace) (w : World) : Calls Try.prog 28 #[.agg #[.int .i64 u.win, .int .i64 u.pods, .int .i64 u.pct, .int .i64 u.per], .agg #[.int .i64 d.win, .int .i64 d.pods, .int .i64 d.pct, .int .i64 d.per]] w (NewStbPost 94 96 w (Tide.newStb u d)) := by
  have hA := (Tide.At.made w 23 #[.int .i64 u.win, .int .i64 u.pods, .int .i64 u.pct, .int .i64 u.per]).alloc (.cells #[.int .i64 d.win, .int .i64 d.pods, .int .i64 d.pct, .int .i64 d.per] 23)
  have hB := Tide.At.made (w.alloc (.cells #[.int .i64 u.win, .int .i64 u.pods, .int .i64 u.pct, .int .i64 u.per] 23)) 23 #[.int .i64 d.win, .int .i64 d.pods, .int .i64 d.pct, .int .i64 d.per]
  simp only [World.size_alloc] at hB
  have hb0 : Below w.heap.size w ((w.alloc (.cells #[.int .i64 u.win, .int .i64 u.pods, .int .i64 u.pct, .int .i64 u.per] 23)).alloc (.cells #[.int .i64 d.win, .int .i64 d.pods, .int .i64 d.pct, .int .i64 d.per] 23)) := ((Below.refl _ _).alloc (Nat.le_refl _) _).alloc (by simp) _
  have HA := Lib.hid hA.drew; have HB := Lib.hid hB.drew; have H0 := Lib.hid hb0.drew
  clear hA hB hb0
  go_enter Try.func28, Try.ntmps28
  go_wp2_with fail
  have hb1 := H0.out
  go_region_with (go_at_call 44; refine (right4 _ _ _ _ w _ (by assumption)).mono ?_; rintro e w1 ⟨rfl, hb1, hc1⟩)
  all_goals
    have HF := Lib.hid (stb_made (T := 94) (TM := 96) (s := Tide.newStb u d) hb1 rfl rfl)
    clear hb1
    go_wp2_with fail
    go_ret
    exact HF.out

end Go.Proofs.Ytcnoapogeohmkaa
