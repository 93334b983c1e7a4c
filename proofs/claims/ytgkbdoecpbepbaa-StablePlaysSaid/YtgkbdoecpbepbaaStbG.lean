/- stable: New; the small check 'slow'; the laws StableBetween and StableFree, walked. -/
import Derived.Test.YtgkbdoecpbepbaaStbF
import Derived.Test.YtgkbdoecpbepbaaOpenRows
namespace Go.Proofs.Ytgkbdoecpbepbaa
open Go.RowKit
set_option linter.unusedVariables false

theorem settle_ok {s : Tide.Stb} {j : Nat} {now have0 want : Int} (h : s.ok j) : (Tide.settleS s now have0 want).ok (j + 1) := by
  unfold Tide.settleS
  cases hk : Tide.settleOk s now have0 want
  · simp only [Bool.false_eq_true, if_false]
    exact ⟨h.up, h.down, h.last0, h.last1, h.wan, h.mov, h.wsort, h.msort, Nat.le_succ_of_le h.wlen, Nat.le_succ_of_le h.mlen⟩
  · simp only [if_true]
    have h1 := Stb.ok_seen h hk
    split
    · exact h1
    · have hb := hk
      unfold Tide.settleOk at hb
      simp only [Bool.and_eq_true, decide_eq_true_eq] at hb
      obtain ⟨⟨⟨a1, a2⟩, a3, a4⟩, a5, a6⟩ := hb
      have := settleN0_bd (s.seen now want) now have0 want (fun m hm => (h1.wan m hm).1) a3 a4 a5 a6
      exact Stb.ok_went (s := s.seen now want) h1 (by omega) (by omega) (by show s.moved.length + 1 ≤ _; have := h.mlen; omega)
def Tide.newStb (u d : Tide.Pace) : Tide.Stb := ⟨u.fix, d.fix, 0, [], []⟩
theorem newStb_ok (u d : Tide.Pace) : (Tide.newStb u d).ok 0 := ⟨u.fix_ok, d.fix_ok, by show (0 : Int) ≤ 0; omega, by show (0 : Int) ≤ _; omega, by simp [Tide.newStb], by simp [Tide.newStb], List.Pairwise.nil, List.Pairwise.nil, Nat.le_refl _, Nat.le_refl _⟩
/-- one thing in memory of the call's own -/
structure Solo (w0 w : World) (S : Nat → Prop) : Prop where
  own : ∀ b, S b → w0.heap.size ≤ b
  below : Below w0.heap.size w0 w
theorem Solo.next {w0 w w1 : World} {S : Nat → Prop} (h : Solo w0 w S) (hc : Tide.Chg S w w1) : Solo w0 w1 (Tide.Plus S w w1) :=
  ⟨fun b hb => by
      have := h.below.size
      rcases hb with hb | hb
      · exact h.own b hb
      · omega, h.below.trans (hc.below h.below.size (fun k hk hS => by have := h.own k hS; omega))⟩
theorem Solo.alloc {w0 w : World} {S : Nat → Prop} (h : Solo w0 w S) (o : Obj) : Solo w0 (w.alloc o) S := ⟨h.own, h.below.alloc h.below.size o⟩
theorem Solo.below_ {w0 w w1 : World} {S : Nat → Prop} (h : Solo w0 w S) (hb : Below w.heap.size w w1) : Solo w0 w1 S := ⟨h.own, h.below.trans (hb.mono h.below.size)⟩
def NewStbPost (T TM : TypeId) (w : World) (s : Tide.Stb) (e : Ending) (w' : World) : Prop := ∃ g, e = .returned (.pointer (some ⟨g, 0, none⟩)) ∧ StbAt T TM (Tide.Plus (fun _ => False) w w') w' g s (.slice none 0 0) (.slice none 0 0) ∧ Below w.heap.size w w'
theorem stb_made {T TM : TypeId} {w w1 : World} {s : Tide.Stb} (hb : Below w.heap.size w w1) (h1 : s.wanted = []) (h2 : s.moved = []) :
    NewStbPost T TM w s (.returned (.pointer (some ⟨w1.heap.size, 0, none⟩))) (w1.alloc (.cells #[.int .i64 s.up.win, .int .i64 s.up.pods, .int .i64 s.up.pct, .int .i64 s.up.per, .int .i64 s.down.win, .int .i64 s.down.pods, .int .i64 s.down.pct, .int .i64 s.down.per, .int .i64 s.last, .slice none 0 0, .slice none 0 0] T)) :=
  ⟨_, rfl, ⟨Tide.At.made _ _ _, by rw [h1]; exact Tide.OwnRow.nil _ _ _ _, by rw [h2]; exact Tide.OwnRow.nil _ _ _ _, fun b hb => by simp [Value.ownBlock] at hb, .inr ⟨hb.size, by simp⟩, fun b hb => by rcases hb with hb | hb; exact hb.elim; exact hb.2⟩, hb.alloc hb.size _⟩
theorem _root_.Go.RowKit.Below.cell_frozen {W w1 : World} (hb : Below W.heap.size W w1) : (∀ b o, b < W.heap.size → w1.cell? ⟨b, o, none⟩ = W.cell? ⟨b, o, none⟩) ∧ (∀ b o, b < W.heap.size → w1.frozen? ⟨b, o, none⟩ = W.frozen? ⟨b, o, none⟩) :=
  ⟨fun b o h => hb.cell (p := ⟨b, o, none⟩) h, fun b o h => hb.frozen (p := ⟨b, o, none⟩) h⟩
theorem right4 (a b c d : Int) (w0 W : World) (h : Below w0.heap.size w0 W) : Calls Try.prog 48 #[.agg #[.int .i64 a, .int .i64 b, .int .i64 c, .int .i64 d]] W fun e w' => e = .returned (.agg #[.int .i64 (Tide.clipT a), .int .i64 (Tide.clipT b), .int .i64 (Tide.clipT c), .int .i64 (Tide.clipT d)]) ∧ Below w0.heap.size w0 w' ∧ (∀ b o, b < W.heap.size → w'.cell? ⟨b, o, none⟩ = W.cell? ⟨b, o, none⟩) :=
  (stbRight ⟨a, b, c, d⟩ W).mono fun _ _ ⟨he, hb⟩ => ⟨he, h.trans (hb.mono h.size), hb.cell_frozen.1⟩
set_option maxRecDepth 100000 in
set_option maxHeartbeats 1600000 in
theorem stbNew (u d : Tide.Pace) (w : World) : Calls Try.prog 28 #[.agg #[.int .i64 u.win, .int .i64 u.pods, .int .i64 u.pct, .int .i64 u.per], .agg #[.int .i64 d.win, .int .i64 d.pods, .int .i64 d.pct, .int .i64 d.per]] w (NewStbPost 94 101 w (Tide.newStb u d)) := by
  have hA := (Tide.At.made w 52 #[.int .i64 u.win, .int .i64 u.pods, .int .i64 u.pct, .int .i64 u.per]).alloc (.cells #[.int .i64 d.win, .int .i64 d.pods, .int .i64 d.pct, .int .i64 d.per] 52)
  have hB := Tide.At.made (w.alloc (.cells #[.int .i64 u.win, .int .i64 u.pods, .int .i64 u.pct, .int .i64 u.per] 52)) 52 #[.int .i64 d.win, .int .i64 d.pods, .int .i64 d.pct, .int .i64 d.per]
  simp only [World.size_alloc] at hB
  have hb0 : Below w.heap.size w ((w.alloc (.cells #[.int .i64 u.win, .int .i64 u.pods, .int .i64 u.pct, .int .i64 u.per] 52)).alloc (.cells #[.int .i64 d.win, .int .i64 d.pods, .int .i64 d.pct, .int .i64 d.per] 52)) := ((Below.refl _ _).alloc (Nat.le_refl _) _).alloc (by simp) _
  have HA := Lib.hid hA.drew; have HB := Lib.hid hB.drew; have H0 := Lib.hid hb0.drew
  clear hA hB hb0
  go_enter Try.func28, Try.ntmps28
  go_wp2_with fail
  have hb1 := H0.out
  go_region_with (go_at_call 48; refine (right4 _ _ _ _ w _ (by assumption)).mono ?_; rintro e w1 ⟨rfl, hb1, hc1⟩)
  all_goals
    have HF := Lib.hid (stb_made (T := 94) (TM := 101) (s := Tide.newStb u d) hb1 rfl rfl)
    clear hb1
    go_wp2_with fail
    go_ret
    exact HF.out

theorem slow_facts : let s0 := Tide.newStb ⟨0, 2, 0, 1⟩ ⟨5, 0, 0, 0⟩
    let s1 := Tide.settleS s0 1 1 9; let s2 := Tide.settleS s1 2 3 9; let s3 := Tide.settleS s2 3 5 1
    Tide.settleN s0 1 1 9 = 3 ∧ Tide.settleE s0 1 1 9 = 0 ∧ Tide.settleN s1 2 3 9 = 5 ∧ Tide.settleE s1 2 3 9 = 0 ∧ Tide.settleN s2 3 5 1 = 5 ∧ Tide.settleE s2 3 5 1 = 0 ∧ Tide.settleN s3 8 5 1 = 1 ∧ Tide.settleE s3 8 5 1 = 0 := by decide +kernel
set_option maxRecDepth 100000 in
set_option maxHeartbeats 1600000 in
theorem stbSlow (w : World) : Calls Try.prog 32 #[] w fun e w' => e = .returned (.bool true) ∧ Below w.heap.size w w' := by
  obtain ⟨f1, f2, f3, f4, f5, f6, f7, f8⟩ := slow_facts
  have F1 := Lib.hid f1; have F2 := Lib.hid f2; have F3 := Lib.hid f3; have F4 := Lib.hid f4; have F5 := Lib.hid f5; have F6 := Lib.hid f6; have F7 := Lib.hid f7; have F8 := Lib.hid f8
  have K0 := Lib.hid (newStb_ok ⟨0, 2, 0, 1⟩ ⟨5, 0, 0, 0⟩)
  clear f1 f2 f3 f4 f5 f6 f7 f8
  go_enter Try.func32, Try.ntmps32
  go_wp2_with fail
  refine (stbNew ⟨0, 2, 0, 1⟩ ⟨5, 0, 0, 0⟩ _).mono ?_
  rintro e w1 ⟨g, rfl, h1, hb1⟩
  have s1 : Solo w w1 (Tide.Plus (fun _ => False) w w1) := ⟨fun b hb => by rcases hb with hb | hb; exact hb.elim; exact hb.1, hb1⟩
  generalize Tide.Plus (fun _ => False) w w1 = S1 at h1 s1
  clear hb1
  go_wp2_with fail
  refine (stbSettle S1 g _ _ _ 1 1 9 _ 0 h1 K0.out (by omega)).mono ?_
  rintro e w2 ⟨rfl, ⟨vw2, vm2, h2⟩, c2⟩
  have s2 := s1.next c2
  rw [F1.out, F2.out]
  have K1 := Lib.hid (settle_ok (now := 1) (have0 := 1) (want := 9) K0.out)
  generalize Tide.settleS (Tide.newStb ⟨0, 2, 0, 1⟩ ⟨5, 0, 0, 0⟩) 1 1 9 = t1 at h2 K1 F3 F4 F5 F6 F7 F8
  generalize Tide.Plus S1 w1 w2 = S2 at h2 s2
  clear h1 s1 c2 F1 F2 K0
  go_wp2_with fail
  refine (stbSettle S2 g _ _ _ 2 3 9 _ 1 h2 K1.out (by omega)).mono ?_
  rintro e w3 ⟨rfl, ⟨vw3, vm3, h3⟩, c3⟩
  have s3 := s2.next c3
  rw [F3.out, F4.out]
  have K2 := Lib.hid (settle_ok (now := 2) (have0 := 3) (want := 9) K1.out)
  generalize Tide.settleS t1 2 3 9 = t2 at h3 K2 F5 F6 F7 F8
  generalize Tide.Plus S2 w2 w3 = S3 at h3 s3
  clear h2 s2 c3 F3 F4 K1
  go_wp2_with fail
  refine (stbSettle S3 g _ _ _ 3 5 1 _ 2 h3 K2.out (by omega)).mono ?_
  rintro e w4 ⟨rfl, ⟨vw4, vm4, h4⟩, c4⟩
  have s4 := s3.next c4
  rw [F5.out, F6.out]
  have K3 := Lib.hid (settle_ok (now := 3) (have0 := 5) (want := 1) K2.out)
  generalize Tide.settleS t2 3 5 1 = t3 at h4 K3 F7 F8
  generalize Tide.Plus S3 w3 w4 = S4 at h4 s4
  clear h3 s3 c4 F5 F6 K2
  go_wp2_with fail
  refine (stbSettle S4 g _ _ _ 8 5 1 _ 3 h4 K3.out (by omega)).mono ?_
  rintro e w5 ⟨rfl, _, c5⟩
  have s5 := Lib.hid (s4.next c5)
  rw [F7.out, F8.out]
  clear h4 s4 c5 F7 F8 K3
  go_wp2_with fail
  go_ret
  exact ⟨rfl, s5.out.below⟩
end Go.Proofs.Ytgkbdoecpbepbaa
