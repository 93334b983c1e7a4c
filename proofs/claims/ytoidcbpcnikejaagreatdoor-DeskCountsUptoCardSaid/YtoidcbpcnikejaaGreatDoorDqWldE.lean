/- A world: what Do does, kind by kind. -/
import Derived.Test.YtoidcbpcnikejaaGreatDoorDqWldT
set_option linter.unusedVariables false
set_option linter.unusedSimpArgs false
set_option maxRecDepth 100000
set_option maxHeartbeats 12800000
namespace Go.Proofs.YtoidcbpcnikejaaGreatDoor
open Go.RowKit
theorem WoN.boxed {R : Nat → Prop} {w : World} {p : Wp} {m : Wo} (h : WoN R w p m) (o : Obj) : WoN (fun b => R b ∨ b = w.heap.size) (w.alloc o) p m ∧ G.Chg (fun b => ¬ R b) w (w.alloc o) :=
 ⟨(h.grow ((G.Chg.refl (fun _ => False) w).alloc o) (fun _ h => h.elim)).mono fun b hb => hb.imp id (fun e => by subst e; exact ⟨Nat.le_refl _, by simp⟩), (G.Chg.refl _ w).alloc o⟩
theorem WoC.unbox {R : Nat → Prop} {w w1 w2 : World} {p : Wp} {m : Wo} (hc : G.Chg (fun b => ¬ R b) w w1) (h : WoC (fun b => R b ∨ b = w.heap.size) w1 w2 p m) : WoC R w w2 p m :=
 ⟨h.1.mono fun _ hb => .inl hb, hc.trans (h.2.mono fun b _ hb hR => hb (.inl hR))⟩
def tickW (m : Wo) (n : Int) : Wo := if tickE m n = 0 then ticksN n.toNat m else m
def readyW (m : Wo) (n : Int) : Wo := if G.turnErr m.f n 2 = 0 then ({ m with f := G.turnLst m.f n 2 3 } : Wo).on else m
def askW (m : Wo) (a n : Int) : Wo := if G.askErr m.b m.now a n = 0 then ({ m with b := G.askLst m.b m.now a n } : Wo).on else m
theorem ok_ready {m : Wo} {j : Nat} (h : m.ok j) (n : Int) : ({ m with f := G.turnLst m.f n 2 3 } : Wo).ok j :=
 { h with crew := (h.crew.turn n 2 3 (.inr ⟨rfl, rfl⟩)).1, live := by show G.liveN (G.turnLst _ _ _ _) ≤ 50; rw [G.live_turn _ _ _ _ (by omega) (by omega)]; exact h.live, fn := by show (G.turnLst _ _ _ _).length ≤ _; rw [(h.crew.turn n 2 3 (.inr ⟨rfl, rfl⟩)).2.2]; exact h.fn }
theorem ok_ask {m : Wo} {j : Nat} (h : m.ok j) (a n : Int) : ({ m with b := G.askLst m.b m.now a n } : Wo).ok j :=
 { h with fair := (G.fair_ask h.fair _ _ _).1, bn := G.ask_length h.bn _ _ _ }
theorem ready_same (m : Wo) (n : Int) : (if G.turnErr m.f n 2 = 0 then ({ m with f := G.turnLst m.f n 2 3 } : Wo).on else { m with f := G.turnLst m.f n 2 3 }) = readyW m n := by
 unfold readyW
 by_cases c : G.turnErr m.f n 2 = 0
 ·rw [if_pos c, if_pos c]
 rw [if_neg c, if_neg c]
 have : G.turnLst m.f n 2 3 = m.f := by
  unfold G.turnErr at c; unfold G.turnLst
  cases hq : G.findP m.f n with
  | none => rfl
  | some i =>
   rw [hq] at c; simp only at c ⊢
   cases hi : m.f[i]? with
   | none => rfl
   | some q =>
    rw [hi] at c; simp only at c ⊢
    split
    ·rename_i hs; rw [if_pos hs] at c; exact absurd rfl c
    rfl
 rw [this]
theorem ask_same (m : Wo) (a n : Int) : (if G.askErr m.b m.now a n = 0 then ({ m with b := G.askLst m.b m.now a n } : Wo).on else { m with b := G.askLst m.b m.now a n }) = askW m a n := by
 unfold askW
 by_cases c : G.askErr m.b m.now a n = 0
 ·rw [if_pos c, if_pos c]
 rw [if_neg c, if_neg c]
 unfold G.askLst; rw [if_neg c]
section
variable {R : Nat → Prop} {p : Wp} {m : Wo} {j : Nat} {w : World}
theorem woDo1 (a n : Int) (h : WoN R w p m) (hk : m.ok j) (hj : j ≤ 284000) (n0 : -9223372036854775808 ≤ n) (n1 : n ≤ 9223372036854775807) :
  Calls Tryz.prog 60 #[.pointer (some ⟨p.g, 0, none⟩), .agg #[.int .i64 1, .int .i64 a, .int .i64 n]] w (WoPost R w p (.int .i64 (doE m 1 a n)) (doW m 1 a n)) := by
 have HE := J (show doE m 1 a n = tickE m n from rfl)
 have HW := J (show doW m 1 a n = tickW m n from rfl)
 obtain ⟨hb1, hb2⟩ := h.boxed (.cells #[.int .i64 1, .int .i64 a, .int .i64 n] 110)
 have hX : G.At (w.alloc (.cells #[.int .i64 1, .int .i64 a, .int .i64 n] 110)) w.heap.size 110 #[.int .i64 1, .int .i64 a, .int .i64 n] := G.At.made w _ _
 have HX := J hX; have HN := J hb1; have HC := J hb2; have HK := J hk
 rw [HE.u, HW.u]
 clear hb1 hb2 hX h hk HE HW
 go_enter Tryz.func60, Tryz.ntmps60
 have z2 := HX.u.here (i := 2) rfl
 go_wp2_with fail
 refine (woTicks _ p m j n _ HN.u HK.u hj n0 n1).mono ?_
 rintro e w2 ⟨rfl, hc⟩
 have HD := J (WoC.unbox HC.u hc)
 clear hc
 go_wp2_with fail
 go_ret
 exact ⟨rfl, HD.u⟩
theorem woDo2 (a n : Int) (h : WoN R w p m) (hk : m.ok j) :
  Calls Tryz.prog 60 #[.pointer (some ⟨p.g, 0, none⟩), .agg #[.int .i64 2, .int .i64 a, .int .i64 n]] w (WoPost R w p (.int .i64 (doE m 2 a n)) (doW m 2 a n)) := by
 have HE := J (show doE m 2 a n = makeErr m.t a n from rfl)
 have HW := J (show doW m 2 a n = { m with t := makeLst m.t a n } from rfl)
 obtain ⟨hb1, hb2⟩ := h.boxed (.cells #[.int .i64 2, .int .i64 a, .int .i64 n] 110)
 have hX : G.At (w.alloc (.cells #[.int .i64 2, .int .i64 a, .int .i64 n] 110)) w.heap.size 110 #[.int .i64 2, .int .i64 a, .int .i64 n] := G.At.made w _ _
 have HX := J hX; have HN := J hb1; have HC := J hb2; have HK := J hk
 have x1 := hb1.at.here (i := 1) rfl
 rw [HE.u, HW.u]
 clear hb1 hb2 hX h hk HE HW
 go_enter Tryz.func60, Tryz.ntmps60
 go_upto_region 6 with fail
 go_region_held3 (fun w' => w'.cell? ⟨p.g, 1, none⟩ = some (.pointer (some ⟨p.gt, 0, none⟩)) ∧ w'.cell? ⟨w.heap.size, 1, none⟩ = some (.int .i64 a) ∧ w'.cell? ⟨w.heap.size, 2, none⟩ = some (.int .i64 n)) (first | exact ⟨y1, z1, z2⟩ | go_keep) ((go_at_call 90; refine (woMake a n _ HN.u.drew HK.u.tp).mono ?_; rintro e w2 ⟨rfl, hc⟩; have HX2 := At.kept HX.u.drew hc.2 (.inr rfl); have HF := J hc; have y1 := HF.u.1.at.here (i := 1) rfl; have z1 := HX2.here (i := 1) rfl; have z2 := HX2.here (i := 2) rfl))
 all_goals
  have HD := J (WoC.unbox (HC.u.drew) HF.u)
  clear hc HX2 y1 z1 z2
  go_wp2_with fail
  go_ret
  exact ⟨rfl, HD.u⟩
theorem woDo3 (a n : Int) (h : WoN R w p m) (hk : m.ok j) :
  Calls Tryz.prog 60 #[.pointer (some ⟨p.g, 0, none⟩), .agg #[.int .i64 3, .int .i64 a, .int .i64 n]] w (WoPost R w p (.int .i64 (doE m 3 a n)) (doW m 3 a n)) := by
 have HE := J (show doE m 3 a n = takeErr m.t a n from rfl)
 have HW := J (show doW m 3 a n = { m with t := takeLst m.t a n } from rfl)
 obtain ⟨hb1, hb2⟩ := h.boxed (.cells #[.int .i64 3, .int .i64 a, .int .i64 n] 110)
 have hX : G.At (w.alloc (.cells #[.int .i64 3, .int .i64 a, .int .i64 n] 110)) w.heap.size 110 #[.int .i64 3, .int .i64 a, .int .i64 n] := G.At.made w _ _
 have HX := J hX; have HN := J hb1; have HC := J hb2; have HK := J hk
 have x1 := hb1.at.here (i := 1) rfl
 rw [HE.u, HW.u]
 clear hb1 hb2 hX h hk HE HW
 go_enter Tryz.func60, Tryz.ntmps60
 go_upto_region 8 with fail
 go_region_held3 (fun w' => w'.cell? ⟨p.g, 1, none⟩ = some (.pointer (some ⟨p.gt, 0, none⟩)) ∧ w'.cell? ⟨w.heap.size, 1, none⟩ = some (.int .i64 a) ∧ w'.cell? ⟨w.heap.size, 2, none⟩ = some (.int .i64 n)) (first | exact ⟨y1, z1, z2⟩ | go_keep) ((go_at_call 91; refine (woTake a n _ HN.u.drew).mono ?_; rintro e w2 ⟨rfl, hc⟩; have HX2 := At.kept HX.u.drew hc.2 (.inr rfl); have HF := J hc; have y1 := HF.u.1.at.here (i := 1) rfl; have z1 := HX2.here (i := 1) rfl; have z2 := HX2.here (i := 2) rfl))
 all_goals
  have HD := J (WoC.unbox (HC.u.drew) HF.u)
  clear hc HX2 y1 z1 z2
  go_wp2_with fail
  go_ret
  exact ⟨rfl, HD.u⟩
theorem woDo4 (a n : Int) (h : WoN R w p m) (hk : m.ok j) (hj : j ≤ 88000000) :
  Calls Tryz.prog 60 #[.pointer (some ⟨p.g, 0, none⟩), .agg #[.int .i64 4, .int .i64 a, .int .i64 n]] w (WoPost R w p (.int .i64 (doE m 4 a n)) (doW m 4 a n)) := by
 have HE := J (show doE m 4 a n = G.putErr m.q n from rfl)
 have HW := J (show doW m 4 a n = { m with q := G.putLst m.q m.ql n, ql := G.putLast m.q m.ql n } from rfl)
 obtain ⟨hb1, hb2⟩ := h.boxed (.cells #[.int .i64 4, .int .i64 a, .int .i64 n] 110)
 have hX : G.At (w.alloc (.cells #[.int .i64 4, .int .i64 a, .int .i64 n] 110)) w.heap.size 110 #[.int .i64 4, .int .i64 a, .int .i64 n] := G.At.made w _ _
 have HX := J hX; have HN := J hb1; have HC := J hb2; have HK := J hk
 have x2 := hb1.at.here (i := 2) rfl
 rw [HE.u, HW.u]
 clear hb1 hb2 hX h hk HE HW
 go_enter Tryz.func60, Tryz.ntmps60
 go_upto_region 10 with fail
 go_region_held3 (fun w' => w'.cell? ⟨p.g, 2, none⟩ = some (.pointer (some ⟨p.gq, 0, none⟩)) ∧ w'.cell? ⟨w.heap.size, 2, none⟩ = some (.int .i64 n)) (first | exact ⟨y2, z2⟩ | go_keep) ((go_at_call 92; refine (woPut n _ HN.u.drew HK.u.ql0 (by have := HK.u.ql1; omega)).mono ?_; rintro e w2 ⟨rfl, hc⟩; have HX2 := At.kept HX.u.drew hc.2 (.inr rfl); have HF := J hc; have y2 := HF.u.1.at.here (i := 2) rfl; have z2 := HX2.here (i := 2) rfl))
 all_goals
  have HD := J (WoC.unbox (HC.u.drew) HF.u)
  clear hc HX2 y2 z2
  go_wp2_with fail
  go_ret
  exact ⟨rfl, HD.u⟩
theorem woDo5 (a n : Int) (h : WoN R w p m) (hk : m.ok j) :
  Calls Tryz.prog 60 #[.pointer (some ⟨p.g, 0, none⟩), .agg #[.int .i64 5, .int .i64 a, .int .i64 n]] w (WoPost R w p (.int .i64 (doE m 5 a n)) (doW m 5 a n)) := by
 have HE := J (show doE m 5 a n = G.leaseErr m.q m.now n from rfl)
 have HW := J (show doW m 5 a n = { m with q := G.leaseLst m.q m.now n } from rfl)
 obtain ⟨hb1, hb2⟩ := h.boxed (.cells #[.int .i64 5, .int .i64 a, .int .i64 n] 110)
 have hX : G.At (w.alloc (.cells #[.int .i64 5, .int .i64 a, .int .i64 n] 110)) w.heap.size 110 #[.int .i64 5, .int .i64 a, .int .i64 n] := G.At.made w _ _
 have HX := J hX; have HN := J hb1; have HC := J hb2; have HK := J hk
 have x2 := hb1.at.here (i := 2) rfl
 have x8 := hb1.at.here (i := 8) rfl
 rw [HE.u, HW.u]
 clear hb1 hb2 hX h hk HE HW
 go_enter Tryz.func60, Tryz.ntmps60
 go_upto_region 12 with fail
 go_region_held3 (fun w' => w'.cell? ⟨p.g, 2, none⟩ = some (.pointer (some ⟨p.gq, 0, none⟩)) ∧ w'.cell? ⟨p.g, 8, none⟩ = some (.int .i64 m.now) ∧ w'.cell? ⟨w.heap.size, 2, none⟩ = some (.int .i64 n)) (first | exact ⟨y2, y8, z2⟩ | go_keep) ((go_at_call 93; refine (woLease m.now n _ HN.u.drew).mono ?_; rintro e w2 ⟨rfl, hc⟩; have HX2 := At.kept HX.u.drew hc.2 (.inr rfl); have HF := J hc; have y2 := HF.u.1.at.here (i := 2) rfl; have y8 := HF.u.1.at.here (i := 8) rfl; have z2 := HX2.here (i := 2) rfl))
 all_goals
  have HD := J (WoC.unbox (HC.u.drew) HF.u)
  clear hc HX2 y2 y8 z2
  go_wp2_with fail
  go_ret
  exact ⟨rfl, HD.u⟩
theorem woDo6 (a n : Int) (h : WoN R w p m) (hk : m.ok j) :
  Calls Tryz.prog 60 #[.pointer (some ⟨p.g, 0, none⟩), .agg #[.int .i64 6, .int .i64 a, .int .i64 n]] w (WoPost R w p (.int .i64 (doE m 6 a n)) (doW m 6 a n)) := by
 have HE := J (show doE m 6 a n = G.ackErr m.q m.now n from rfl)
 have HW := J (show doW m 6 a n = { m with q := G.ackLst m.q m.now n } from rfl)
 obtain ⟨hb1, hb2⟩ := h.boxed (.cells #[.int .i64 6, .int .i64 a, .int .i64 n] 110)
 have hX : G.At (w.alloc (.cells #[.int .i64 6, .int .i64 a, .int .i64 n] 110)) w.heap.size 110 #[.int .i64 6, .int .i64 a, .int .i64 n] := G.At.made w _ _
 have HX := J hX; have HN := J hb1; have HC := J hb2; have HK := J hk
 have x2 := hb1.at.here (i := 2) rfl
 have x8 := hb1.at.here (i := 8) rfl
 rw [HE.u, HW.u]
 clear hb1 hb2 hX h hk HE HW
 go_enter Tryz.func60, Tryz.ntmps60
 go_upto_region 14 with fail
 go_region_held3 (fun w' => w'.cell? ⟨p.g, 2, none⟩ = some (.pointer (some ⟨p.gq, 0, none⟩)) ∧ w'.cell? ⟨p.g, 8, none⟩ = some (.int .i64 m.now) ∧ w'.cell? ⟨w.heap.size, 2, none⟩ = some (.int .i64 n)) (first | exact ⟨y2, y8, z2⟩ | go_keep) ((go_at_call 94; refine (woAck m.now n _ HN.u.drew).mono ?_; rintro e w2 ⟨rfl, hc⟩; have HX2 := At.kept HX.u.drew hc.2 (.inr rfl); have HF := J hc; have y2 := HF.u.1.at.here (i := 2) rfl; have y8 := HF.u.1.at.here (i := 8) rfl; have z2 := HX2.here (i := 2) rfl))
 all_goals
  have HD := J (WoC.unbox (HC.u.drew) HF.u)
  clear hc HX2 y2 y8 z2
  go_wp2_with fail
  go_ret
  exact ⟨rfl, HD.u⟩
theorem woDo7 (a n : Int) (h : WoN R w p m) (hk : m.ok j) :
  Calls Tryz.prog 60 #[.pointer (some ⟨p.g, 0, none⟩), .agg #[.int .i64 7, .int .i64 a, .int .i64 n]] w (WoPost R w p (.int .i64 (doE m 7 a n)) (doW m 7 a n)) := by
 have HE := J (show doE m 7 a n = failE m a n from rfl)
 have HW := J (show doW m 7 a n = failW m a n from rfl)
 obtain ⟨hb1, hb2⟩ := h.boxed (.cells #[.int .i64 7, .int .i64 a, .int .i64 n] 110)
 have hX : G.At (w.alloc (.cells #[.int .i64 7, .int .i64 a, .int .i64 n] 110)) w.heap.size 110 #[.int .i64 7, .int .i64 a, .int .i64 n] := G.At.made w _ _
 have HX := J hX; have HN := J hb1; have HC := J hb2; have HK := J hk
 rw [HE.u, HW.u]
 clear hb1 hb2 hX h hk HE HW
 go_enter Tryz.func60, Tryz.ntmps60
 have z1 := HX.u.here (i := 1) rfl
 have z2 := HX.u.here (i := 2) rfl
 go_wp2_with fail
 refine (woFail _ p m a n _ HN.u (by have := HK.u.fails; have := (planE_ok HK.u.lp.plan).few; omega)).mono ?_
 rintro e w2 ⟨rfl, hc⟩
 have HD := J (WoC.unbox HC.u hc)
 clear hc
 go_wp2_with fail
 go_ret
 exact ⟨rfl, HD.u⟩
theorem woDo13 (a n : Int) (h : WoN R w p m) (hk : m.ok j) :
  Calls Tryz.prog 60 #[.pointer (some ⟨p.g, 0, none⟩), .agg #[.int .i64 13, .int .i64 a, .int .i64 n]] w (WoPost R w p (.int .i64 (doE m 13 a n)) (doW m 13 a n)) := by
 have HE := J (show doE m 13 a n = pauseE n from rfl)
 have HW := J (show doW m 13 a n = { m with l := pauseL m.l n } from rfl)
 obtain ⟨hb1, hb2⟩ := h.boxed (.cells #[.int .i64 13, .int .i64 a, .int .i64 n] 110)
 have hX : G.At (w.alloc (.cells #[.int .i64 13, .int .i64 a, .int .i64 n] 110)) w.heap.size 110 #[.int .i64 13, .int .i64 a, .int .i64 n] := G.At.made w _ _
 have HX := J hX; have HN := J hb1; have HC := J hb2; have HK := J hk
 have x0 := hb1.at.here (i := 0) rfl
 rw [HE.u, HW.u]
 clear hb1 hb2 hX h hk HE HW
 go_enter Tryz.func60, Tryz.ntmps60
 go_upto_region 18 with fail
 go_region_held3 (fun w' => w'.cell? ⟨p.g, 0, none⟩ = some (.pointer (some ⟨p.gl, 0, none⟩)) ∧ w'.cell? ⟨w.heap.size, 2, none⟩ = some (.int .i64 n)) (first | exact ⟨y0, z2⟩ | go_keep) ((go_at_call 96; refine (woPause n _ HN.u.drew).mono ?_; rintro e w2 ⟨rfl, hc⟩; have HX2 := At.kept HX.u.drew hc.2 (.inr rfl); have HF := J hc; have y0 := HF.u.1.at.here (i := 0) rfl; have z2 := HX2.here (i := 2) rfl))
 all_goals
  have HD := J (WoC.unbox (HC.u.drew) HF.u)
  clear hc HX2 y0 z2
  go_wp2_with fail
  go_ret
  exact ⟨rfl, HD.u⟩
theorem woDo8 (a n : Int) (h : WoN R w p m) (hk : m.ok j) :
  Calls Tryz.prog 60 #[.pointer (some ⟨p.g, 0, none⟩), .agg #[.int .i64 8, .int .i64 a, .int .i64 n]] w (WoPost R w p (.int .i64 (doE m 8 a n)) (doW m 8 a n)) := by
 have HE := J (show doE m 8 a n = G.turnErr m.f n 1 from rfl)
 have HW := J (show doW m 8 a n = { m with f := G.turnLst m.f n 1 2 } from rfl)
 obtain ⟨hb1, hb2⟩ := h.boxed (.cells #[.int .i64 8, .int .i64 a, .int .i64 n] 110)
 have hX : G.At (w.alloc (.cells #[.int .i64 8, .int .i64 a, .int .i64 n] 110)) w.heap.size 110 #[.int .i64 8, .int .i64 a, .int .i64 n] := G.At.made w _ _
 have HX := J hX; have HN := J hb1; have HC := J hb2; have HK := J hk
 have x3 := hb1.at.here (i := 3) rfl
 rw [HE.u, HW.u]
 clear hb1 hb2 hX h hk HE HW
 go_enter Tryz.func60, Tryz.ntmps60
 go_upto_region 20 with fail
 go_region_held3 (fun w' => w'.cell? ⟨p.g, 3, none⟩ = some (.pointer (some ⟨p.gf, 0, none⟩)) ∧ w'.cell? ⟨w.heap.size, 2, none⟩ = some (.int .i64 n)) (first | exact ⟨y3, z2⟩ | go_keep) ((go_at_call 97; refine (woStart n _ HN.u.drew).mono ?_; rintro e w2 ⟨rfl, hc⟩; have HX2 := At.kept HX.u.drew hc.2 (.inr rfl); have HF := J hc; have y3 := HF.u.1.at.here (i := 3) rfl; have z2 := HX2.here (i := 2) rfl))
 all_goals
  have HD := J (WoC.unbox (HC.u.drew) HF.u)
  clear hc HX2 y3 z2
  go_wp2_with fail
  go_ret
  exact ⟨rfl, HD.u⟩
theorem woDo10 (a n : Int) (h : WoN R w p m) (hk : m.ok j) :
  Calls Tryz.prog 60 #[.pointer (some ⟨p.g, 0, none⟩), .agg #[.int .i64 10, .int .i64 a, .int .i64 n]] w (WoPost R w p (.int .i64 (doE m 10 a n)) (doW m 10 a n)) := by
 have HE := J (show doE m 10 a n = G.crashErr m.f n from rfl)
 have HW := J (show doW m 10 a n = crashW m n from rfl)
 obtain ⟨hb1, hb2⟩ := h.boxed (.cells #[.int .i64 10, .int .i64 a, .int .i64 n] 110)
 have hX : G.At (w.alloc (.cells #[.int .i64 10, .int .i64 a, .int .i64 n] 110)) w.heap.size 110 #[.int .i64 10, .int .i64 a, .int .i64 n] := G.At.made w _ _
 have HX := J hX; have HN := J hb1; have HC := J hb2; have HK := J hk
 rw [HE.u, HW.u]
 clear hb1 hb2 hX h hk HE HW
 go_enter Tryz.func60, Tryz.ntmps60
 have z2 := HX.u.here (i := 2) rfl
 go_wp2_with fail
 refine (woCrashed _ p m j n _ HN.u HK.u).mono ?_
 rintro e w2 ⟨rfl, hc⟩
 have HD := J (WoC.unbox HC.u hc)
 clear hc
 go_wp2_with fail
 go_ret
 exact ⟨rfl, HD.u⟩
theorem woDo12 (a n : Int) (h : WoN R w p m) (hk : m.ok j) :
  Calls Tryz.prog 60 #[.pointer (some ⟨p.g, 0, none⟩), .agg #[.int .i64 12, .int .i64 a, .int .i64 n]] w (WoPost R w p (.int .i64 (doE m 12 a n)) (doW m 12 a n)) := by
 have HE := J (show doE m 12 a n = G.doneErr m.b n from rfl)
 have HW := J (show doW m 12 a n = finishW m n from rfl)
 obtain ⟨hb1, hb2⟩ := h.boxed (.cells #[.int .i64 12, .int .i64 a, .int .i64 n] 110)
 have hX : G.At (w.alloc (.cells #[.int .i64 12, .int .i64 a, .int .i64 n] 110)) w.heap.size 110 #[.int .i64 12, .int .i64 a, .int .i64 n] := G.At.made w _ _
 have HX := J hX; have HN := J hb1; have HC := J hb2; have HK := J hk
 rw [HE.u, HW.u]
 clear hb1 hb2 hX h hk HE HW
 go_enter Tryz.func60, Tryz.ntmps60
 have z2 := HX.u.here (i := 2) rfl
 go_wp2_with fail
 refine (woFinished _ p m j n _ HN.u HK.u).mono ?_
 rintro e w2 ⟨rfl, hc⟩
 have HD := J (WoC.unbox HC.u hc)
 clear hc
 go_wp2_with fail
 go_ret
 exact ⟨rfl, HD.u⟩
theorem woDo9 (a n : Int) (h : WoN R w p m) (hk : m.ok j) :
  Calls Tryz.prog 60 #[.pointer (some ⟨p.g, 0, none⟩), .agg #[.int .i64 9, .int .i64 a, .int .i64 n]] w (WoPost R w p (.int .i64 (doE m 9 a n)) (doW m 9 a n)) := by
 have HE := J (show doE m 9 a n = G.turnErr m.f n 2 from rfl)
 have HW := J (show doW m 9 a n = readyW m n from rfl)
 obtain ⟨hb1, hb2⟩ := h.boxed (.cells #[.int .i64 9, .int .i64 a, .int .i64 n] 110)
 have hX : G.At (w.alloc (.cells #[.int .i64 9, .int .i64 a, .int .i64 n] 110)) w.heap.size 110 #[.int .i64 9, .int .i64 a, .int .i64 n] := G.At.made w _ _
 have HX := J hX; have HN := J hb1; have HC := J hb2; have HK := J hk
 have HOk := J (ok_ready hk n)
 have x3 := hb1.at.here (i := 3) rfl
 rw [HE.u, HW.u]
 clear hb1 hb2 hX h hk HE HW
 go_enter Tryz.func60, Tryz.ntmps60
 go_upto_region 22 with fail
 go_region_held3 (fun w' => w'.cell? ⟨p.g, 3, none⟩ = some (.pointer (some ⟨p.gf, 0, none⟩)) ∧ w'.cell? ⟨w.heap.size, 2, none⟩ = some (.int .i64 n)) (first | exact ⟨y3, z2⟩ | exact ⟨y3b, z2b⟩ | go_keep) (first | (go_at_call 99; refine (woReady n _ HN.u.drew).mono ?_; rintro e w2 ⟨rfl, hc⟩; have HX2 := At.kept HX.u.drew hc.2 (.inr rfl); have HF := J hc; have y3 := HF.u.1.at.here (i := 3) rfl; have z2 := HX2.here (i := 2) rfl) | (go_at_call 98; refine (woThen _ p _ j _ _ HF.u.1 HOk.u).mono ?_; rintro e w3 ⟨rfl, hc3⟩; have HX3 := At.kept HX2 hc3.2 (.inr rfl); have HF3 := J (WoC.trans HF.u.2 hc3); have y3b := hc3.1.at.here (i := 3) rfl; have z2b := HX3.here (i := 2) rfl))
 all_goals
  have HD := J (WoC.unbox (HC.u.drew) HF3.u)
  have HD2 := J (show WoC R w w3 p (readyW m n) from by have h5 := HD.u; rw [ready_same] at h5; exact h5)
  clear hc hc3 HX2 HX3 y3 z2 y3b z2b HD
  go_wp2_with fail
  go_ret
  exact ⟨rfl, HD2.u⟩
theorem woDo11 (a n : Int) (h : WoN R w p m) (hk : m.ok j) :
  Calls Tryz.prog 60 #[.pointer (some ⟨p.g, 0, none⟩), .agg #[.int .i64 11, .int .i64 a, .int .i64 n]] w (WoPost R w p (.int .i64 (doE m 11 a n)) (doW m 11 a n)) := by
 have HE := J (show doE m 11 a n = G.askErr m.b m.now a n from rfl)
 have HW := J (show doW m 11 a n = askW m a n from rfl)
 obtain ⟨hb1, hb2⟩ := h.boxed (.cells #[.int .i64 11, .int .i64 a, .int .i64 n] 110)
 have hX : G.At (w.alloc (.cells #[.int .i64 11, .int .i64 a, .int .i64 n] 110)) w.heap.size 110 #[.int .i64 11, .int .i64 a, .int .i64 n] := G.At.made w _ _
 have HX := J hX; have HN := J hb1; have HC := J hb2
 have HOk := J (ok_ask hk a n)
 have x4 := hb1.at.here (i := 4) rfl
 have x8 := hb1.at.here (i := 8) rfl
 rw [HE.u, HW.u]
 clear hb1 hb2 hX h hk HE HW
 go_enter Tryz.func60, Tryz.ntmps60
 go_upto_region 26 with fail
 go_region_held3 (fun w' => w'.cell? ⟨p.g, 4, none⟩ = some (.pointer (some ⟨p.gb, 0, none⟩)) ∧ w'.cell? ⟨p.g, 8, none⟩ = some (.int .i64 m.now) ∧ w'.cell? ⟨w.heap.size, 1, none⟩ = some (.int .i64 a) ∧ w'.cell? ⟨w.heap.size, 2, none⟩ = some (.int .i64 n)) (first | exact ⟨y4, y8, z1, z2⟩ | go_keep) ((go_at_call 101; refine (woAsk m.now a n _ HN.u.drew).mono ?_; rintro e w2 ⟨rfl, hc⟩; have HX2 := At.kept HX.u.drew hc.2 (.inr rfl); have HF := J hc; have y4 := HF.u.1.at.here (i := 4) rfl; have y8 := HF.u.1.at.here (i := 8) rfl; have z1 := HX2.here (i := 1) rfl; have z2 := HX2.here (i := 2) rfl))
 all_goals
  clear hc HX2 y4 y8 z1 z2
  go_wp2_with fail
  refine (woThen _ p _ j _ _ HF.u.1 HOk.u).mono ?_
  rintro e w3 ⟨rfl, hc3⟩
  have HD := J (WoC.unbox (HC.u.drew) (WoC.trans HF.u.2 hc3))
  have HD2 := J (show WoC R w w3 p (askW m a n) from by have h5 := HD.u; rw [ask_same] at h5; exact h5)
  clear hc3 HD
  go_wp2_with fail
  go_ret
  exact ⟨rfl, HD2.u⟩
theorem woDoNo (k a n : Int) (h : WoN R w p m) (hk : k < 1 ∨ 13 < k) :
  Calls Tryz.prog 60 #[.pointer (some ⟨p.g, 0, none⟩), .agg #[.int .i64 k, .int .i64 a, .int .i64 n]] w (WoPost R w p (.int .i64 (doE m k a n)) (doW m k a n)) := by
 have ne : ∀ c : Int, 1 ≤ c → c ≤ 13 → ¬ k = c := fun c h1 h2 e => by omega
 have HE := J (show doE m k a n = 1 by unfold doE; simp [ne])
 have HW := J (show doW m k a n = m by unfold doW; simp [ne])
 obtain ⟨hb1, hb2⟩ := h.boxed (.cells #[.int .i64 k, .int .i64 a, .int .i64 n] 110)
 have HD := J (show WoC R w (w.alloc (.cells #[.int .i64 k, .int .i64 a, .int .i64 n] 110)) p m from ⟨hb1.mono fun _ hb => .inl hb, hb2⟩)
 have b1 : (k == 1) = false := by simpa using ne 1 (by omega) (by omega)
 have b2 : (k == 2) = false := by simpa using ne 2 (by omega) (by omega)
 have b3 : (k == 3) = false := by simpa using ne 3 (by omega) (by omega)
 have b4 : (k == 4) = false := by simpa using ne 4 (by omega) (by omega)
 have b5 : (k == 5) = false := by simpa using ne 5 (by omega) (by omega)
 have b6 : (k == 6) = false := by simpa using ne 6 (by omega) (by omega)
 have b7 : (k == 7) = false := by simpa using ne 7 (by omega) (by omega)
 have b8 : (k == 8) = false := by simpa using ne 8 (by omega) (by omega)
 have b9 : (k == 9) = false := by simpa using ne 9 (by omega) (by omega)
 have b10 : (k == 10) = false := by simpa using ne 10 (by omega) (by omega)
 have b11 : (k == 11) = false := by simpa using ne 11 (by omega) (by omega)
 have b12 : (k == 12) = false := by simpa using ne 12 (by omega) (by omega)
 have b13 : (k == 13) = false := by simpa using ne 13 (by omega) (by omega)
 rw [HE.u, HW.u]
 clear hb1 hb2 h hk HE HW ne
 go_enter Tryz.func60, Tryz.ntmps60
 go_wp2_with fail
 go_ret
 exact ⟨rfl, HD.u⟩
theorem woDo (k a n : Int) (h : WoN R w p m) (hk : m.ok j) (hj : j ≤ 284000) (n0 : -9223372036854775808 ≤ n) (n1 : n ≤ 9223372036854775807) :
  Calls Tryz.prog 60 #[.pointer (some ⟨p.g, 0, none⟩), .agg #[.int .i64 k, .int .i64 a, .int .i64 n]] w (WoPost R w p (.int .i64 (doE m k a n)) (doW m k a n)) := by
 by_cases hno : k < 1 ∨ 13 < k
 ·exact woDoNo k a n h hno
 rcases (show k = 1 ∨ k = 2 ∨ k = 3 ∨ k = 4 ∨ k = 5 ∨ k = 6 ∨ k = 7 ∨ k = 8 ∨ k = 9 ∨ k = 10 ∨ k = 11 ∨ k = 12 ∨ k = 13 by omega) with rfl | rfl | rfl | rfl | rfl | rfl | rfl | rfl | rfl | rfl | rfl | rfl | rfl
 ·exact woDo1 a n h hk hj n0 n1
 ·exact woDo2 a n h hk
 ·exact woDo3 a n h hk
 ·exact woDo4 a n h hk (by omega)
 ·exact woDo5 a n h hk
 ·exact woDo6 a n h hk
 ·exact woDo7 a n h hk
 ·exact woDo8 a n h hk
 ·exact woDo9 a n h hk
 ·exact woDo10 a n h hk
 ·exact woDo11 a n h hk
 ·exact woDo12 a n h hk
 exact woDo13 a n h hk
end
end Go.Proofs.YtoidcbpcnikejaaGreatDoor
