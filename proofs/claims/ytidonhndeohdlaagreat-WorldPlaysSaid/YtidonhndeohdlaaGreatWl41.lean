/- The reference's world: what Do does, kind by kind. -/
import Derived.Test.YtidonhndeohdlaaGreatWl40
import Derived.Test.YtidonhndeohdlaaGreatWlWldE
set_option linter.unusedVariables false
set_option linter.unusedSimpArgs false
set_option maxRecDepth 100000
set_option maxHeartbeats 12800000
namespace Go.Proofs.YtidonhndeohdlaaGreat
open Go.RowKit
theorem GloN.boxed {RT R : Nat → Prop} {w : World} {p : Wp} {m : Wo} (h : GloN RT R w p m) (o : Obj) : GloN RT (fun b => R b ∨ b = w.heap.size) (w.alloc o) p m ∧ G.Chg (fun b => ¬ R b) w (w.alloc o) :=
 ⟨(h.grow ((G.Chg.refl (fun _ => False) w).alloc o) (fun _ h => h.elim) (fun _ _ h => h)).mono fun b hb => hb.imp id (fun e => by subst e; exact ⟨Nat.le_refl _, by simp⟩), (G.Chg.refl _ w).alloc o⟩
theorem GloK.unbox {RT R : Nat → Prop} {w w1 w2 : World} {p : Wp} {m : Wo} (hc : G.Chg (fun b => ¬ R b) w w1) (h : GloK RT (fun b => R b ∨ b = w.heap.size) w1 w2 p m) : GloK RT R w w2 p m :=
 ⟨h.1.mono fun _ hb => .inl hb, hc.trans (h.2.mono fun b _ hb hR => hb (.inl hR))⟩
theorem GloK.any {RT R : Nat → Prop} {w w1 w2 : World} {p : Wp} {m m1 : Wo} (h : GloK RT R w w1 p m1) (k : GloK RT R w1 w2 p m) : GloK RT R w w2 p m := GloK.trans h.2 k
section
variable {RT R : Nat → Prop} {p : Wp} {m : Wo} {j : Nat} {w : World}
theorem gloDo2 (a n : Int) (h : GloN RT R w p m) (hk : m.ok j) :
  Calls Tryz.prog 9 #[.pointer (some ⟨p.g, 0, none⟩), .agg #[.int .i64 2, .int .i64 a, .int .i64 n]] w (GloPost RT R w p (.int .i64 (doE m 2 a n)) (doW m 2 a n)) := by
 have HE := J (show doE m 2 a n = makeErr m.t a n from rfl)
 have HW := J (show doW m 2 a n = { m with t := makeLst m.t a n } from rfl)
 obtain ⟨hb1, hb2⟩ := h.boxed (.cells #[.int .i64 2, .int .i64 a, .int .i64 n] 37)
 have HX := J (show G.At (w.alloc (.cells #[.int .i64 2, .int .i64 a, .int .i64 n] 37)) w.heap.size 37 #[.int .i64 2, .int .i64 a, .int .i64 n] from G.At.made w _ _)
 have HN := J hb1; have HC := J hb2; have HK := J hk
 have xc := hb1.at.here (i := 1) rfl
 rw [HE.u, HW.u]
 clear hb1 hb2 h hk HE HW
 go_enter Tryz.func9, Tryz.ntmps9
 go_upto_region 13 with fail
 go_region_held3 (fun w' => w'.cell? ⟨p.g, 1, none⟩ = some (.pointer (some ⟨p.gt, 0, none⟩)) ∧ w'.cell? ⟨w.heap.size, 1, none⟩ = some (.int .i64 a) ∧ w'.cell? ⟨w.heap.size, 2, none⟩ = some (.int .i64 n)) (first | exact ⟨yc, z1, z2⟩ | go_keep) ((go_at_call 33; refine (gloMake a n _ HN.u.drew HK.u.tp).mono ?_; rintro e w2 ⟨rfl, hc⟩; have HX2 := At.kept HX.u.drew hc.2 (.inr rfl); have HF := J hc; have yc := HF.u.1.at.here (i := 1) rfl; have z1 := HX2.here (i := 1) rfl; have z2 := HX2.here (i := 2) rfl))
 all_goals
  have HD := J (GloK.unbox HC.u.drew HF.u)
  clear hc HX2 yc z1 z2
  go_wp2_with fail
  go_ret
  exact ⟨rfl, HD.u⟩
theorem gloDo3 (a n : Int) (h : GloN RT R w p m) (hk : m.ok j) :
  Calls Tryz.prog 9 #[.pointer (some ⟨p.g, 0, none⟩), .agg #[.int .i64 3, .int .i64 a, .int .i64 n]] w (GloPost RT R w p (.int .i64 (doE m 3 a n)) (doW m 3 a n)) := by
 have HE := J (show doE m 3 a n = takeErr m.t a n from rfl)
 have HW := J (show doW m 3 a n = { m with t := takeLst m.t a n } from rfl)
 obtain ⟨hb1, hb2⟩ := h.boxed (.cells #[.int .i64 3, .int .i64 a, .int .i64 n] 37)
 have HX := J (show G.At (w.alloc (.cells #[.int .i64 3, .int .i64 a, .int .i64 n] 37)) w.heap.size 37 #[.int .i64 3, .int .i64 a, .int .i64 n] from G.At.made w _ _)
 have HN := J hb1; have HC := J hb2; have HK := J hk
 have xc := hb1.at.here (i := 1) rfl
 rw [HE.u, HW.u]
 clear hb1 hb2 h hk HE HW
 go_enter Tryz.func9, Tryz.ntmps9
 go_upto_region 15 with fail
 go_region_held3 (fun w' => w'.cell? ⟨p.g, 1, none⟩ = some (.pointer (some ⟨p.gt, 0, none⟩)) ∧ w'.cell? ⟨w.heap.size, 1, none⟩ = some (.int .i64 a) ∧ w'.cell? ⟨w.heap.size, 2, none⟩ = some (.int .i64 n)) (first | exact ⟨yc, z1, z2⟩ | go_keep) ((go_at_call 34; refine (gloTake a n _ HN.u.drew).mono ?_; rintro e w2 ⟨rfl, hc⟩; have HX2 := At.kept HX.u.drew hc.2 (.inr rfl); have HF := J hc; have yc := HF.u.1.at.here (i := 1) rfl; have z1 := HX2.here (i := 1) rfl; have z2 := HX2.here (i := 2) rfl))
 all_goals
  have HD := J (GloK.unbox HC.u.drew HF.u)
  clear hc HX2 yc z1 z2
  go_wp2_with fail
  go_ret
  exact ⟨rfl, HD.u⟩
theorem gloDo4 (a n : Int) (h : GloN RT R w p m) (hk : m.ok j) (hj : j ≤ 88000000) :
  Calls Tryz.prog 9 #[.pointer (some ⟨p.g, 0, none⟩), .agg #[.int .i64 4, .int .i64 a, .int .i64 n]] w (GloPost RT R w p (.int .i64 (doE m 4 a n)) (doW m 4 a n)) := by
 have HE := J (show doE m 4 a n = G.putErr m.q n from rfl)
 have HW := J (show doW m 4 a n = { m with q := G.putLst m.q m.ql n, ql := G.putLast m.q m.ql n } from rfl)
 obtain ⟨hb1, hb2⟩ := h.boxed (.cells #[.int .i64 4, .int .i64 a, .int .i64 n] 37)
 have HX := J (show G.At (w.alloc (.cells #[.int .i64 4, .int .i64 a, .int .i64 n] 37)) w.heap.size 37 #[.int .i64 4, .int .i64 a, .int .i64 n] from G.At.made w _ _)
 have HN := J hb1; have HC := J hb2; have HK := J hk
 have xc := hb1.at.here (i := 2) rfl
 rw [HE.u, HW.u]
 clear hb1 hb2 h hk HE HW
 go_enter Tryz.func9, Tryz.ntmps9
 go_upto_region 17 with fail
 go_region_held3 (fun w' => w'.cell? ⟨p.g, 2, none⟩ = some (.pointer (some ⟨p.gq, 0, none⟩)) ∧ w'.cell? ⟨w.heap.size, 2, none⟩ = some (.int .i64 n)) (first | exact ⟨yc, z2⟩ | go_keep) ((go_at_call 35; refine (gloPut n _ HN.u.drew HK.u.ql0 (by have := HK.u.ql1; omega)).mono ?_; rintro e w2 ⟨rfl, hc⟩; have HX2 := At.kept HX.u.drew hc.2 (.inr rfl); have HF := J hc; have yc := HF.u.1.at.here (i := 2) rfl; have z2 := HX2.here (i := 2) rfl))
 all_goals
  have HD := J (GloK.unbox HC.u.drew HF.u)
  clear hc HX2 yc z2
  go_wp2_with fail
  go_ret
  exact ⟨rfl, HD.u⟩
theorem gloDo5 (a n : Int) (h : GloN RT R w p m) (hk : m.ok j) :
  Calls Tryz.prog 9 #[.pointer (some ⟨p.g, 0, none⟩), .agg #[.int .i64 5, .int .i64 a, .int .i64 n]] w (GloPost RT R w p (.int .i64 (doE m 5 a n)) (doW m 5 a n)) := by
 have HE := J (show doE m 5 a n = G.leaseErr m.q m.now n from rfl)
 have HW := J (show doW m 5 a n = { m with q := G.leaseLst m.q m.now n } from rfl)
 obtain ⟨hb1, hb2⟩ := h.boxed (.cells #[.int .i64 5, .int .i64 a, .int .i64 n] 37)
 have HX := J (show G.At (w.alloc (.cells #[.int .i64 5, .int .i64 a, .int .i64 n] 37)) w.heap.size 37 #[.int .i64 5, .int .i64 a, .int .i64 n] from G.At.made w _ _)
 have HN := J hb1; have HC := J hb2; have HK := J hk
 have xc := hb1.at.here (i := 2) rfl
 have x7 := hb1.at.here (i := 7) rfl
 rw [HE.u, HW.u]
 clear hb1 hb2 h hk HE HW
 go_enter Tryz.func9, Tryz.ntmps9
 go_upto_region 20 with fail
 go_region_held3 (fun w' => w'.cell? ⟨p.g, 2, none⟩ = some (.pointer (some ⟨p.gq, 0, none⟩)) ∧ w'.cell? ⟨p.g, 7, none⟩ = some (.int .i64 m.now) ∧ w'.cell? ⟨w.heap.size, 2, none⟩ = some (.int .i64 n)) (first | exact ⟨yc, y7, z2⟩ | go_keep) ((go_at_call 36; refine (gloLease m.now n _ HN.u.drew).mono ?_; rintro e w2 ⟨rfl, hc⟩; have HX2 := At.kept HX.u.drew hc.2 (.inr rfl); have HF := J hc; have yc := HF.u.1.at.here (i := 2) rfl; have y7 := HF.u.1.at.here (i := 7) rfl; have z2 := HX2.here (i := 2) rfl))
 all_goals
  have HD := J (GloK.unbox HC.u.drew HF.u)
  clear hc HX2 yc y7 z2
  go_wp2_with fail
  go_ret
  exact ⟨rfl, HD.u⟩
theorem gloDo6 (a n : Int) (h : GloN RT R w p m) (hk : m.ok j) (hup : G.Up m.q) :
  Calls Tryz.prog 9 #[.pointer (some ⟨p.g, 0, none⟩), .agg #[.int .i64 6, .int .i64 a, .int .i64 n]] w (GloPost RT R w p (.int .i64 (doE m 6 a n)) (doW m 6 a n)) := by
 have HE := J (show doE m 6 a n = G.ackErr m.q m.now n from rfl)
 have HW := J (show doW m 6 a n = { m with q := G.ackLst m.q m.now n } from rfl)
 obtain ⟨hb1, hb2⟩ := h.boxed (.cells #[.int .i64 6, .int .i64 a, .int .i64 n] 37)
 have HX := J (show G.At (w.alloc (.cells #[.int .i64 6, .int .i64 a, .int .i64 n] 37)) w.heap.size 37 #[.int .i64 6, .int .i64 a, .int .i64 n] from G.At.made w _ _)
 have HN := J hb1; have HC := J hb2; have HK := J hk
 have xc := hb1.at.here (i := 2) rfl
 have x7 := hb1.at.here (i := 7) rfl
 rw [HE.u, HW.u]
 clear hb1 hb2 h hk HE HW
 go_enter Tryz.func9, Tryz.ntmps9
 go_upto_region 23 with fail
 go_region_held3 (fun w' => w'.cell? ⟨p.g, 2, none⟩ = some (.pointer (some ⟨p.gq, 0, none⟩)) ∧ w'.cell? ⟨p.g, 7, none⟩ = some (.int .i64 m.now) ∧ w'.cell? ⟨w.heap.size, 2, none⟩ = some (.int .i64 n)) (first | exact ⟨yc, y7, z2⟩ | go_keep) ((go_at_call 37; refine (gloAck m.now n _ HN.u.drew hup).mono ?_; rintro e w2 ⟨rfl, hc⟩; have HX2 := At.kept HX.u.drew hc.2 (.inr rfl); have HF := J hc; have yc := HF.u.1.at.here (i := 2) rfl; have y7 := HF.u.1.at.here (i := 7) rfl; have z2 := HX2.here (i := 2) rfl))
 all_goals
  have HD := J (GloK.unbox HC.u.drew HF.u)
  clear hc HX2 yc y7 z2
  go_wp2_with fail
  go_ret
  exact ⟨rfl, HD.u⟩
theorem gloDo8 (a n : Int) (h : GloN RT R w p m) (hk : m.ok j) :
  Calls Tryz.prog 9 #[.pointer (some ⟨p.g, 0, none⟩), .agg #[.int .i64 8, .int .i64 a, .int .i64 n]] w (GloPost RT R w p (.int .i64 (doE m 8 a n)) (doW m 8 a n)) := by
 have HE := J (show doE m 8 a n = G.turnErr m.f n 1 from rfl)
 have HW := J (show doW m 8 a n = { m with f := G.turnLst m.f n 1 2 } from rfl)
 obtain ⟨hb1, hb2⟩ := h.boxed (.cells #[.int .i64 8, .int .i64 a, .int .i64 n] 37)
 have HX := J (show G.At (w.alloc (.cells #[.int .i64 8, .int .i64 a, .int .i64 n] 37)) w.heap.size 37 #[.int .i64 8, .int .i64 a, .int .i64 n] from G.At.made w _ _)
 have HN := J hb1; have HC := J hb2; have HK := J hk
 have xc := hb1.at.here (i := 3) rfl
 rw [HE.u, HW.u]
 clear hb1 hb2 h hk HE HW
 go_enter Tryz.func9, Tryz.ntmps9
 go_upto_region 37 with fail
 go_region_held3 (fun w' => w'.cell? ⟨p.g, 3, none⟩ = some (.pointer (some ⟨p.gf, 0, none⟩)) ∧ w'.cell? ⟨w.heap.size, 2, none⟩ = some (.int .i64 n)) (first | exact ⟨yc, z2⟩ | go_keep) ((go_at_call 38; refine (gloTurn n 1 _ HN.u.drew (by decide) (by decide)).mono ?_; rintro e w2 ⟨rfl, hc⟩; have HX2 := At.kept HX.u.drew hc.2 (.inr rfl); have HF := J hc; have yc := HF.u.1.at.here (i := 3) rfl; have z2 := HX2.here (i := 2) rfl))
 all_goals
  have HD := J (GloK.unbox HC.u.drew HF.u)
  clear hc HX2 yc z2
  go_wp2_with fail
  go_ret
  exact ⟨rfl, HD.u⟩
theorem gloDo9 (a n : Int) (h : GloN RT R w p m) (hk : m.ok j) :
  Calls Tryz.prog 9 #[.pointer (some ⟨p.g, 0, none⟩), .agg #[.int .i64 9, .int .i64 a, .int .i64 n]] w (GloPost RT R w p (.int .i64 (doE m 9 a n)) (doW m 9 a n)) := by
 have HE := J (show doE m 9 a n = G.turnErr m.f n 2 from rfl)
 have HW := J (show doW m 9 a n = readyW m n from rfl)
 obtain ⟨hb1, hb2⟩ := h.boxed (.cells #[.int .i64 9, .int .i64 a, .int .i64 n] 37)
 have HX := J (show G.At (w.alloc (.cells #[.int .i64 9, .int .i64 a, .int .i64 n] 37)) w.heap.size 37 #[.int .i64 9, .int .i64 a, .int .i64 n] from G.At.made w _ _)
 have HN := J hb1; have HC := J hb2; have HK := J hk
 have xc := hb1.at.here (i := 3) rfl
 have HOk := J (ok_ready hk n)
 rw [HE.u, HW.u]
 clear hb1 hb2 h hk HE HW
 go_enter Tryz.func9, Tryz.ntmps9
 by_cases hx : G.turnErr m.f n 2 = 0
 ·have HXe := J hx
  have HU := J (show readyW m n = ({ m with f := G.turnLst m.f n 2 3 } : Wo).on by unfold readyW; rw [if_pos hx])
  clear hx
  go_upto_region 39 with fail
  go_region_held3 (fun w' => w'.cell? ⟨p.g, 3, none⟩ = some (.pointer (some ⟨p.gf, 0, none⟩)) ∧ w'.cell? ⟨w.heap.size, 2, none⟩ = some (.int .i64 n)) (first | exact ⟨yc, z2⟩ | go_keep) ((go_at_call 38; refine (gloTurn n 2 _ HN.u.drew (by decide) (by decide)).mono ?_; rintro e w2 ⟨rfl, hc⟩; rw [HXe.u]; have HX2 := At.kept HX.u.drew hc.2 (.inr rfl); have HF := J hc; have yc := HF.u.1.at.here (i := 3) rfl; have z2 := HX2.here (i := 2) rfl))
  all_goals
   clear hc HX2 yc z2
   go_wp2_with fail
   refine (gloOn RT _ p _ j _ HF.u.1 HOk.u).mono ?_
   rintro e w3 ⟨rfl, hc3⟩
   have HD := J (GloK.unbox HC.u.drew (GloK.any HF.u hc3))
   clear hc3
   go_wp2_with fail
   go_ret
   exact ⟨by rw [HXe.u] <;> rfl, by rw [HU.u]; exact HD.u⟩
 have hxb : ((G.turnErr m.f n 2) == 0) = false := by simpa using hx
 have HU := J (show readyW m n = { m with f := G.turnLst m.f n 2 3 } by rw [← ready_same, if_neg hx])
 obtain ⟨E, hE⟩ : ∃ E, G.turnErr m.f n 2 = E := ⟨_, rfl⟩
 rw [hE] at hxb
 have HXe := J hE
 clear hx hE
 go_upto_region 39 with fail
 go_region_held3 (fun w' => w'.cell? ⟨p.g, 3, none⟩ = some (.pointer (some ⟨p.gf, 0, none⟩)) ∧ w'.cell? ⟨w.heap.size, 2, none⟩ = some (.int .i64 n)) (first | exact ⟨yc, z2⟩ | go_keep) ((go_at_call 38; refine (gloTurn n 2 _ HN.u.drew (by decide) (by decide)).mono ?_; rintro e w2 ⟨rfl, hc⟩; rw [HXe.u]; have HX2 := At.kept HX.u.drew hc.2 (.inr rfl); have HF := J hc; have yc := HF.u.1.at.here (i := 3) rfl; have z2 := HX2.here (i := 2) rfl))
 all_goals
  have HD := J (GloK.unbox HC.u.drew HF.u)
  clear hc HX2 yc z2
  go_wp2_with fail
  go_ret
  exact ⟨by rw [HXe.u] <;> rfl, by rw [HU.u]; exact HD.u⟩
theorem gloDo11 (a n : Int) (h : GloN RT R w p m) (hk : m.ok j) (hg : G.Good m.b) :
  Calls Tryz.prog 9 #[.pointer (some ⟨p.g, 0, none⟩), .agg #[.int .i64 11, .int .i64 a, .int .i64 n]] w (GloPost RT R w p (.int .i64 (doE m 11 a n)) (doW m 11 a n)) := by
 have HE := J (show doE m 11 a n = G.askErr m.b m.now a n from rfl)
 have HW := J (show doW m 11 a n = askW m a n from rfl)
 obtain ⟨hb1, hb2⟩ := h.boxed (.cells #[.int .i64 11, .int .i64 a, .int .i64 n] 37)
 have HX := J (show G.At (w.alloc (.cells #[.int .i64 11, .int .i64 a, .int .i64 n] 37)) w.heap.size 37 #[.int .i64 11, .int .i64 a, .int .i64 n] from G.At.made w _ _)
 have HN := J hb1; have HC := J hb2; have HK := J hk
 have xc := hb1.at.here (i := 4) rfl
 have x7 := hb1.at.here (i := 7) rfl
 have HOk := J (ok_ask hk a n)
 rw [HE.u, HW.u]
 clear hb1 hb2 h hk HE HW
 go_enter Tryz.func9, Tryz.ntmps9
 by_cases hx : G.askErr m.b m.now a n = 0
 ·have HXe := J hx
  have HU := J (show askW m a n = ({ m with b := G.askLst m.b m.now a n } : Wo).on by unfold askW; rw [if_pos hx])
  clear hx
  go_upto_region 45 with fail
  go_region_held3 (fun w' => w'.cell? ⟨p.g, 4, none⟩ = some (.pointer (some ⟨p.gb, 0, none⟩)) ∧ w'.cell? ⟨p.g, 7, none⟩ = some (.int .i64 m.now) ∧ w'.cell? ⟨w.heap.size, 1, none⟩ = some (.int .i64 a) ∧ w'.cell? ⟨w.heap.size, 2, none⟩ = some (.int .i64 n)) (first | exact ⟨yc, y7, z1, z2⟩ | go_keep) ((go_at_call 41; refine (gloAsk m.now a n _ HN.u.drew (hg.few a) hg.all).mono ?_; rintro e w2 ⟨rfl, hc⟩; rw [HXe.u]; have HX2 := At.kept HX.u.drew hc.2 (.inr rfl); have HF := J hc; have yc := HF.u.1.at.here (i := 4) rfl; have y7 := HF.u.1.at.here (i := 7) rfl; have z1 := HX2.here (i := 1) rfl; have z2 := HX2.here (i := 2) rfl))
  all_goals
   clear hc HX2 yc y7 z1 z2
   go_wp2_with fail
   refine (gloOn RT _ p _ j _ HF.u.1 HOk.u).mono ?_
   rintro e w3 ⟨rfl, hc3⟩
   have HD := J (GloK.unbox HC.u.drew (GloK.any HF.u hc3))
   clear hc3
   go_wp2_with fail
   go_ret
   exact ⟨by rw [HXe.u] <;> rfl, by rw [HU.u]; exact HD.u⟩
 have hxb : ((G.askErr m.b m.now a n) == 0) = false := by simpa using hx
 have HU := J (show askW m a n = { m with b := G.askLst m.b m.now a n } by rw [← ask_same, if_neg hx])
 obtain ⟨E, hE⟩ : ∃ E, G.askErr m.b m.now a n = E := ⟨_, rfl⟩
 rw [hE] at hxb
 have HXe := J hE
 clear hx hE
 go_upto_region 45 with fail
 go_region_held3 (fun w' => w'.cell? ⟨p.g, 4, none⟩ = some (.pointer (some ⟨p.gb, 0, none⟩)) ∧ w'.cell? ⟨p.g, 7, none⟩ = some (.int .i64 m.now) ∧ w'.cell? ⟨w.heap.size, 1, none⟩ = some (.int .i64 a) ∧ w'.cell? ⟨w.heap.size, 2, none⟩ = some (.int .i64 n)) (first | exact ⟨yc, y7, z1, z2⟩ | go_keep) ((go_at_call 41; refine (gloAsk m.now a n _ HN.u.drew (hg.few a) hg.all).mono ?_; rintro e w2 ⟨rfl, hc⟩; rw [HXe.u]; have HX2 := At.kept HX.u.drew hc.2 (.inr rfl); have HF := J hc; have yc := HF.u.1.at.here (i := 4) rfl; have y7 := HF.u.1.at.here (i := 7) rfl; have z1 := HX2.here (i := 1) rfl; have z2 := HX2.here (i := 2) rfl))
 all_goals
  have HD := J (GloK.unbox HC.u.drew HF.u)
  clear hc HX2 yc y7 z1 z2
  go_wp2_with fail
  go_ret
  exact ⟨by rw [HXe.u] <;> rfl, by rw [HU.u]; exact HD.u⟩
theorem gloDo10 (a n : Int) (h : GloN RT R w p m) (hk : m.ok j) :
  Calls Tryz.prog 9 #[.pointer (some ⟨p.g, 0, none⟩), .agg #[.int .i64 10, .int .i64 a, .int .i64 n]] w (GloPost RT R w p (.int .i64 (doE m 10 a n)) (doW m 10 a n)) := by
 have HE := J (show doE m 10 a n = G.crashErr m.f n from rfl)
 have HW := J (show doW m 10 a n = crashW m n from rfl)
 obtain ⟨hb1, hb2⟩ := h.boxed (.cells #[.int .i64 10, .int .i64 a, .int .i64 n] 37)
 have HX := J (show G.At (w.alloc (.cells #[.int .i64 10, .int .i64 a, .int .i64 n] 37)) w.heap.size 37 #[.int .i64 10, .int .i64 a, .int .i64 n] from G.At.made w _ _)
 have HN := J hb1; have HC := J hb2; have HK := J hk
 have xc := hb1.at.here (i := 3) rfl
 have HOk := J (ok_crash hk n)
 rw [HE.u, HW.u]
 clear hb1 hb2 h hk HE HW
 go_enter Tryz.func9, Tryz.ntmps9
 by_cases hx : G.crashErr m.f n = 0
 ·have HXe := J hx
  have HU := J (show crashW m n = ({ m with f := G.crashLst m.f n, b := G.lostLst m.b n } : Wo).on by unfold crashW; rw [if_pos hx])
  clear hx
  go_upto_region 41 with fail
  go_region_held3 (fun w' => w'.cell? ⟨p.g, 3, none⟩ = some (.pointer (some ⟨p.gf, 0, none⟩)) ∧ w'.cell? ⟨w.heap.size, 2, none⟩ = some (.int .i64 n)) (first | exact ⟨yc, z2⟩ | go_keep) ((go_at_call 39; refine (gloCrash n _ HN.u.drew HK.u.crew.up).mono ?_; rintro e w2 ⟨rfl, hc⟩; rw [HXe.u]; have HX2 := At.kept HX.u.drew hc.2 (.inr rfl); have HF := J hc; have yc := HF.u.1.at.here (i := 3) rfl; have z2 := HX2.here (i := 2) rfl))
  all_goals
   have HX3 := J HX2
   have x4 := HF.u.1.at.here (i := 4) rfl
   clear hc HX2 yc
   go_upto_region 43 with fail
   go_region_held3 (fun w' => w'.cell? ⟨p.g, 4, none⟩ = some (.pointer (some ⟨p.gb, 0, none⟩)) ∧ w'.cell? ⟨w.heap.size, 2, none⟩ = some (.int .i64 n)) (first | exact ⟨v4, v2⟩ | go_keep) ((go_at_call 40; refine (gloLost n _ HF.u.1.drew HK.u.fair.num).mono ?_; rintro e w3 ⟨⟨v, rfl⟩, hc3⟩; have HX4 := At.kept HX3.u.drew hc3.2 (.inr rfl); have HF3 := J (GloK.trans HF.u.2.drew hc3); have v4 := HF3.u.1.at.here (i := 4) rfl; have v2 := HX4.here (i := 2) rfl))
   all_goals
    clear hc3 HX4 v4 v2 x4 z2
    go_wp2_with fail
    refine (gloOn RT _ p _ j _ HF3.u.1 HOk.u).mono ?_
    rintro e w4 ⟨rfl, hc4⟩
    have HD := J (GloK.unbox HC.u.drew (GloK.any HF3.u hc4))
    clear hc4
    go_wp2_with fail
    go_ret
    exact ⟨by rw [HXe.u] <;> rfl, by rw [HU.u]; exact HD.u⟩
 have hxb : (G.crashErr m.f n == 0) = false := by simpa using hx
 have HU := J (show crashW m n = { m with f := G.crashLst m.f n } by
  unfold crashW; rw [if_neg hx]
  have e : G.crashLst m.f n = m.f := by
   unfold G.crashErr at hx; unfold G.crashLst
   cases hq : G.findP m.f n with
   | none => rfl
   | some i => rw [hq] at hx; exact absurd rfl hx
  rw [e])
 obtain ⟨E, hE⟩ : ∃ E, G.crashErr m.f n = E := ⟨_, rfl⟩
 rw [hE] at hxb
 have HXe := J hE
 clear hx hE
 go_upto_region 41 with fail
 go_region_held3 (fun w' => w'.cell? ⟨p.g, 3, none⟩ = some (.pointer (some ⟨p.gf, 0, none⟩)) ∧ w'.cell? ⟨w.heap.size, 2, none⟩ = some (.int .i64 n)) (first | exact ⟨yc, z2⟩ | go_keep) ((go_at_call 39; refine (gloCrash n _ HN.u.drew HK.u.crew.up).mono ?_; rintro e w2 ⟨rfl, hc⟩; rw [HXe.u]; have HX2 := At.kept HX.u.drew hc.2 (.inr rfl); have HF := J hc; have yc := HF.u.1.at.here (i := 3) rfl; have z2 := HX2.here (i := 2) rfl))
 all_goals
  have HD := J (GloK.unbox HC.u.drew HF.u)
  clear hc HX2 yc z2
  go_wp2_with fail
  go_ret
  exact ⟨by rw [HXe.u] <;> rfl, by rw [HU.u]; exact HD.u⟩
theorem gloDo12 (a n : Int) (h : GloN RT R w p m) (hk : m.ok j) :
  Calls Tryz.prog 9 #[.pointer (some ⟨p.g, 0, none⟩), .agg #[.int .i64 12, .int .i64 a, .int .i64 n]] w (GloPost RT R w p (.int .i64 (doE m 12 a n)) (doW m 12 a n)) := by
 have HE := J (show doE m 12 a n = G.doneErr m.b n from rfl)
 have HW := J (show doW m 12 a n = finishW m n from rfl)
 obtain ⟨hb1, hb2⟩ := h.boxed (.cells #[.int .i64 12, .int .i64 a, .int .i64 n] 37)
 have HX := J (show G.At (w.alloc (.cells #[.int .i64 12, .int .i64 a, .int .i64 n] 37)) w.heap.size 37 #[.int .i64 12, .int .i64 a, .int .i64 n] from G.At.made w _ _)
 have HN := J hb1; have HC := J hb2; have HK := J hk
 have xc := hb1.at.here (i := 4) rfl
 have HOk := J (ok_doneW hk n)
 have HL := J (two_loads hk.crew hk.most1)
 rw [HE.u, HW.u]
 clear hb1 hb2 h hk HE HW
 go_enter Tryz.func9, Tryz.ntmps9
 by_cases hx : G.doneErr m.b n = 0
 ·have HXe := J hx
  have HU := J (show finishW m n = (doneW m n).on by unfold finishW; rw [if_pos hx])
  clear hx
  go_upto_region 48 with fail
  go_region_held3 (fun w' => w'.cell? ⟨p.g, 4, none⟩ = some (.pointer (some ⟨p.gb, 0, none⟩)) ∧ w'.cell? ⟨w.heap.size, 2, none⟩ = some (.int .i64 n)) (first | exact ⟨yc, z2⟩ | go_keep) ((go_at_call 42; refine (gloReqDone n _ HN.u.drew).mono ?_; rintro e w2 ⟨rfl, hc⟩; rw [HXe.u]; have HX2 := At.kept HX.u.drew hc.2 (.inr rfl); have HF := J hc; have yc := HF.u.1.at.here (i := 4) rfl; have z2 := HX2.here (i := 2) rfl))
  all_goals
   have x3 := HF.u.1.at.here (i := 3) rfl
   clear hc HX2 yc z2
   go_wp2_with fail
   refine (gloPodDone (G.doneNum m.b n) _ HF.u.1 HL.u HK.u.crew.up).mono ?_
   rintro e w3 ⟨rfl, hc3⟩
   have HF3 := J (show GloK RT _ _ w3 p (doneW m n) from GloK.any HF.u hc3)
   clear hc3 x3
   go_wp2_with fail
   refine (gloOn RT _ p _ j _ HF3.u.1 HOk.u).mono ?_
   rintro e w4 ⟨rfl, hc4⟩
   have HD := J (GloK.unbox HC.u.drew (GloK.any HF3.u hc4))
   clear hc4
   go_wp2_with fail
   go_ret
   exact ⟨by rw [HXe.u] <;> rfl, by rw [HU.u]; exact HD.u⟩
 have hxb : (G.doneErr m.b n == 0) = false := by simpa using hx
 have HU := J (show finishW m n = { m with b := G.doneLst m.b n } by
  unfold finishW; rw [if_neg hx]
  have e : G.doneLst m.b n = m.b := by
   unfold G.doneErr at hx; unfold G.doneLst
   cases hq : G.reqAt m.b n with
   | none => rfl
   | some r =>
    rw [hq] at hx; simp only at hx ⊢
    split
    ·rename_i h2; rw [if_pos h2] at hx; exact absurd rfl hx
    rfl
  rw [e])
 obtain ⟨E, hE⟩ : ∃ E, G.doneErr m.b n = E := ⟨_, rfl⟩
 rw [hE] at hxb
 have HXe := J hE
 clear hx hE
 go_upto_region 48 with fail
 go_region_held3 (fun w' => w'.cell? ⟨p.g, 4, none⟩ = some (.pointer (some ⟨p.gb, 0, none⟩)) ∧ w'.cell? ⟨w.heap.size, 2, none⟩ = some (.int .i64 n)) (first | exact ⟨yc, z2⟩ | go_keep) ((go_at_call 42; refine (gloReqDone n _ HN.u.drew).mono ?_; rintro e w2 ⟨rfl, hc⟩; rw [HXe.u]; have HX2 := At.kept HX.u.drew hc.2 (.inr rfl); have HF := J hc; have yc := HF.u.1.at.here (i := 4) rfl; have z2 := HX2.here (i := 2) rfl))
 all_goals
  have HD := J (GloK.unbox HC.u.drew HF.u)
  clear hc HX2 yc z2
  go_wp2_with fail
  go_ret
  exact ⟨by rw [HXe.u] <;> rfl, by rw [HU.u]; exact HD.u⟩
theorem gloDo13 (a n : Int) (h : GloN RT R w p m) (hk : m.ok j) :
  Calls Tryz.prog 9 #[.pointer (some ⟨p.g, 0, none⟩), .agg #[.int .i64 13, .int .i64 a, .int .i64 n]] w (GloPost RT R w p (.int .i64 (doE m 13 a n)) (doW m 13 a n)) := by
 have HE := J (show doE m 13 a n = pauseE n from rfl)
 have HW := J (show doW m 13 a n = { m with l := pauseL m.l n } from rfl)
 obtain ⟨hb1, hb2⟩ := h.boxed (.cells #[.int .i64 13, .int .i64 a, .int .i64 n] 37)
 have HX := J (show G.At (w.alloc (.cells #[.int .i64 13, .int .i64 a, .int .i64 n] 37)) w.heap.size 37 #[.int .i64 13, .int .i64 a, .int .i64 n] from G.At.made w _ _)
 have HN := J hb1; have HC := J hb2; have HK := J hk
 have xc := hb1.at.here (i := 0) rfl
 rw [HE.u, HW.u]
 clear hb1 hb2 h hk HE HW
 go_enter Tryz.func9, Tryz.ntmps9
 have z2 := HX.u.here (i := 2) rfl
 by_cases hn : -1 ≤ n ∧ n ≤ 50
 ·have HPe := J (show pauseE n = 0 by unfold pauseE; rw [if_neg (by omega)])
  have HIn := J (fun (W : World) => refIn_yes n (-1) 50 W hn.1 hn.2)
  have HF := J (HN.u.pause hn.1 hn.2)
  obtain ⟨gs, lf, hWa, _⟩ := HN.u.watch
  have x23 : (w.alloc (.cells #[.int .i64 13, .int .i64 a, .int .i64 n] 37)).cell? ⟨p.gl, 23, none⟩ = some (.int .i64 m.l.pause) := hWa.here (i := 23) rfl
  have p23 := hWa.soft 23
  clear hn hWa
  go_wp2_with fail
  refine (HIn.u _).mono ?_
  rintro e w2 ⟨rfl, rfl⟩
  go_upto_region 27 with fail
  go_region
  all_goals
   have HD := J (GloK.unbox HC.u (show GloK RT _ _ (World.setCell (w.alloc (.cells #[.int .i64 13, .int .i64 a, .int .i64 n] 37)) ⟨p.gl, 23, none⟩ (.int .i64 n)).drew p _ from ⟨HF.u.1.drew, HF.u.2.drew⟩))
   go_wp2_with fail
   go_ret
   exact ⟨by rw [HPe.u] <;> rfl, HD.u⟩
 have HPe := J (show pauseE n = 1 by unfold pauseE; rw [if_pos (by omega)])
 have HPl := J (show pauseL m.l n = m.l by unfold pauseL; rw [if_pos (by omega)])
 have HIn := J (fun (W : World) => refIn_no n (-1) 50 W (by omega))
 have HD := J (GloK.unbox HC.u (GloK.refl HN.u))
 clear hn
 go_wp2_with fail
 refine (HIn.u _).mono ?_
 rintro e w2 ⟨rfl, rfl⟩
 go_wp2_with fail
 go_ret
 exact ⟨by rw [HPe.u] <;> rfl, by rw [HPl.u]; exact HD.u⟩
theorem gloDo7 (a n : Int) (h : GloN RT R w p m) (hk : m.ok j) (hf : m.fails.length ≤ 1000) :
  Calls Tryz.prog 9 #[.pointer (some ⟨p.g, 0, none⟩), .agg #[.int .i64 7, .int .i64 a, .int .i64 n]] w (GloPost RT R w p (.int .i64 (doE m 7 a n)) (doW m 7 a n)) := by
 have HE := J (show doE m 7 a n = failE m a n from rfl)
 have HW := J (show doW m 7 a n = failW m a n from rfl)
 obtain ⟨hb1, hb2⟩ := h.boxed (.cells #[.int .i64 7, .int .i64 a, .int .i64 n] 37)
 have HX := J (show G.At (w.alloc (.cells #[.int .i64 7, .int .i64 a, .int .i64 n] 37)) w.heap.size 37 #[.int .i64 7, .int .i64 a, .int .i64 n] from G.At.made w _ _)
 have HN := J hb1; have HC := J hb2; have HK := J hk
 obtain ⟨A, cap, e, hA⟩ := hb1.failv
 have x5 : (w.alloc (.cells #[.int .i64 7, .int .i64 a, .int .i64 n] 37)).cell? ⟨p.g, 5, none⟩ = some (.slice A m.fails.length cap) := e ▸ hb1.at.here (i := 5) rfl
 have hl : (m.fails.length : Int) ≤ 1000 := by omega
 have HEv := J e; have HAv := J hA
 have q1 : IntKind.i64.wrap ((m.fails.length : Int) - 1) = (m.fails.length : Int) - 1 := IntWalk.i64_in _ (by omega)
 rw [HE.u, HW.u]
 clear hb1 hb2 h hk HE HW e hA
 go_enter Tryz.func9, Tryz.ntmps9
 have z1 := HX.u.here (i := 1) rfl
 have z2 := HX.u.here (i := 2) rfl
 by_cases h0 : 0 ≤ a ∧ a ≤ (m.fails.length : Int) - 1
 ·have HIn := J (fun (W : World) => refInT a 0 ((m.fails.length : Int) - 1) W h0.1 h0.2)
  by_cases hn : 0 ≤ n ∧ n ≤ 1
  ·obtain ⟨k, rfl⟩ := Int.eq_ofNat_of_zero_le h0.1
   have hk : k < m.fails.length := by omega
   obtain ⟨b, rfl, hbl, hbR, hbg, hcl⟩ := HAv.u (by omega)
   obtain ⟨x, hx⟩ := G.get_some m.fails hk
   obtain ⟨c0, c1⟩ := hcl k x hx
   have e1 : failE m k n = 0 := by unfold failE; rw [if_neg (by omega), if_neg (by omega)]
   have e2 : failW m k n = { m with fails := m.fails.set k (n == 1) } := by unfold failW; rw [if_pos e1]; rfl
   have HF := J (fun q => GloK.unbox (HC.u.trans (G.Chg.of_below (w' := World.drewN (w.alloc (.cells #[.int .i64 7, .int .i64 k, .int .i64 n] 37)) q) ⟨rfl, rfl, rfl, Nat.le_refl _, fun _ _ => rfl⟩ (Nat.le_refl _))) ((HN.u.drewN q).failSet HEv.u hk (n == 1)))
   have HIo := J (fun (W : World) => refIn_yes n 0 1 W hn.1 hn.2)
   have hk0 : (0 : Int) ≤ (k : Int) := by omega
   have hk1 : (k : Int) < (m.fails.length : Int) := by omega
   rw [e1, e2]
   clear h0 e1 e2 hcl hx hbl hbR hbg hk hl
   go_upto_region 30 with fail
   go_quiet ((go_at_call 6; exact Calls.quiet_of_same (HIn.u _)))
   all_goals
    go_wp2_with fail
    refine (HIo.u _).mono ?_
    rintro e w2 ⟨rfl, rfl⟩
    go_upto_region 34 with fail
    go_region
    all_goals
     go_wp2_with fail
     go_ret
     exact ⟨rfl, HF.u _⟩
  have e1 : failE m a n = 1 := by unfold failE; rw [if_neg (by omega), if_pos (by omega)]
  have e2 : failW m a n = m := by unfold failW; rw [e1]; rfl
  have HIo := J (fun (W : World) => refIn_no n 0 1 W (by omega))
  have HD := J (fun k => (GloK.unbox HC.u (GloK.refl HN.u)).below (w' := World.drewN (w.alloc (.cells #[.int .i64 7, .int .i64 a, .int .i64 n] 37)) k) ⟨rfl, rfl, rfl, Nat.le_refl _, fun _ _ => rfl⟩)
  rw [e1, e2]
  clear h0 e1 e2 hn
  go_upto_region 30 with fail
  go_quiet ((go_at_call 6; exact Calls.quiet_of_same (HIn.u _)))
  all_goals
   go_wp2_with fail
   refine (HIo.u _).mono ?_
   rintro e w2 ⟨rfl, rfl⟩
   go_wp2_with fail
   go_ret
   exact ⟨rfl, HD.u _⟩
 have HIn := J (fun (W : World) => refInF a 0 ((m.fails.length : Int) - 1) W (by omega))
 have e1 : failE m a n = 4 := by unfold failE; rw [if_pos (by omega)]
 have e2 : failW m a n = m := by unfold failW; rw [e1]; rfl
 have HD := J (fun k => (GloK.unbox HC.u (GloK.refl HN.u)).below (w' := World.drewN (w.alloc (.cells #[.int .i64 7, .int .i64 a, .int .i64 n] 37)) k) ⟨rfl, rfl, rfl, Nat.le_refl _, fun _ _ => rfl⟩)
 rw [e1, e2]
 clear h0 e1 e2
 go_upto_region 30 with fail
 go_quiet ((go_at_call 6; exact Calls.quiet_of_same (HIn.u _)))
 all_goals
  go_wp2_with fail
  go_ret
  exact ⟨rfl, HD.u _⟩
theorem gloDo1 (a n : Int) (h : GloN RT R w p m) (hk : m.ok j) (hj : j ≤ 87000) (n0 : -9223372036854775808 ≤ n) (n1 : n ≤ 9223372036854775807) :
  Calls Tryz.prog 9 #[.pointer (some ⟨p.g, 0, none⟩), .agg #[.int .i64 1, .int .i64 a, .int .i64 n]] w (GloPost RT R w p (.int .i64 (doE m 1 a n)) (doW m 1 a n)) := by
 have HE := J (show doE m 1 a n = tickE m n from rfl)
 have HW := J (show doW m 1 a n = tickW m n from rfl)
 obtain ⟨hb1, hb2⟩ := h.boxed (.cells #[.int .i64 1, .int .i64 a, .int .i64 n] 37)
 have HX := J (show G.At (w.alloc (.cells #[.int .i64 1, .int .i64 a, .int .i64 n] 37)) w.heap.size 37 #[.int .i64 1, .int .i64 a, .int .i64 n] from G.At.made w _ _)
 have HN := J hb1; have HC := J hb2; have HK := J hk
 have x7 := hb1.at.here (i := 7) rfl
 have t0 := hk.now0
 have t1 := hk.now1
 rw [HE.u, HW.u]
 clear hb1 hb2 h hk HE HW
 go_enter Tryz.func9, Tryz.ntmps9
 have z2 := HX.u.here (i := 2) rfl
 have HD := J (fun k => (GloK.unbox HC.u (GloK.refl HN.u)).below (w' := World.drewN (w.alloc (.cells #[.int .i64 1, .int .i64 a, .int .i64 n] 37)) k) ⟨rfl, rfl, rfl, Nat.le_refl _, fun _ _ => rfl⟩)
 by_cases h0 : 1 ≤ n ∧ n ≤ 1000
 ·have HIn := J (fun (W : World) => refInT n 1 1000 W h0.1 h0.2)
  obtain ⟨N, rfl⟩ := Int.eq_ofNat_of_zero_le (show 0 ≤ n by omega)
  have q1 : IntKind.i64.wrap (m.now + (N : Int)) = m.now + (N : Int) := IntWalk.i64_in _ (by omega)
  by_cases h3 : 1099511627776 < m.now + (N : Int)
  ·have e1 : tickE m N = 1 := by unfold tickE; rw [if_pos (by omega)]
   have e2 : tickW m N = m := by unfold tickW; rw [e1]; rfl
   rw [e1, e2]
   clear h0 e1 e2
   go_upto_region 5 with fail
   go_quiet ((go_at_call 6; exact Calls.quiet_of_same (HIn.u _)))
   all_goals
    go_wp2_with fail
    go_ret
    exact ⟨rfl, HD.u _⟩
  have e1 : tickE m N = 0 := by unfold tickE; rw [if_neg (by omega)]
  have e2 : tickW m N = ticksN N m := by unfold tickW; rw [if_pos e1, Int.toNat_natCast]
  have HN1 := J (show 1 ≤ N ∧ N ≤ 1000 ∧ m.now + N ≤ 1099511627776 by omega)
  have HS := J (fun k => show ∃ m' : Wo, m' = ticksN 0 m ∧ GloK RT (fun b => R b ∨ b = w.heap.size) (w.alloc (.cells #[.int .i64 1, .int .i64 a, .int .i64 N] 37)) (World.drewN (w.alloc (.cells #[.int .i64 1, .int .i64 a, .int .i64 N] 37)) k) p m' from ⟨m, rfl, (GloK.refl HN.u).below ⟨rfl, rfl, rfl, Nat.le_refl _, fun _ _ => rfl⟩⟩)
  rw [e1, e2]
  clear h0 e1 e2
  go_upto_region 5 with fail
  go_quiet ((go_at_call 6; exact Calls.quiet_of_same (HIn.u _)))
  all_goals
   clear x7
   go_wp2_with fail
   go_loopw [6] (fun i wr => ∃ k : Nat, k ≤ N ∧ i = .int .i64 k ∧ Hid (∃ m' : Wo, m' = ticksN k m ∧ GloK RT (fun b => R b ∨ b = w.heap.size) (w.alloc (.cells #[.int .i64 1, .int .i64 a, .int .i64 N] 37)) wr p m')) (fun i _ => N - (intOf i).toNat)
   case atStart => exact ⟨0, Nat.zero_le _, rfl, J (HS.u _)⟩
   clear HS HD z2 q1 HIn h3
   obtain ⟨k, hkN, rfl, HM⟩ := hrel
   obtain ⟨m', hm, hc⟩ := HM.u
   have hX := At.kept HX.u hc.2 (.inr rfl)
   have z2 := hX.here (i := 2) rfl
   by_cases hlt : k < N
   ·have hk0 : (0 : Int) ≤ (k : Int) := by omega
    have hk1 : (k : Int) < (N : Int) := by omega
    have hok : m'.ok (j + k) := by rw [hm]; exact ok_ticks HK.u k (by have := HN1.u; omega)
    have hnow : m'.now = m.now + k := by rw [hm]; exact ticks_now k m
    have HT := J (fun (hh : GloN RT (fun b => R b ∨ b = w.heap.size) wr p m') => gloTick RT _ p m' (j + k) wr hh hok (by have := HN1.u; omega) (by have := HN1.u; omega))
    have HGc := J hc; have HEq := J hm
    clear hok hnow hm hc HM hX
    go_wp2_with fail
    refine (HT.u HGc.u.1).mono ?_
    rintro e w4 ⟨rfl, hc4⟩
    have HNx := J (show ∃ m2 : Wo, m2 = ticksN (k + 1) m ∧ GloK RT (fun b => R b ∨ b = w.heap.size) (w.alloc (.cells #[.int .i64 1, .int .i64 a, .int .i64 N] 37)) w4 p m2 from ⟨m'.tick, by rw [HEq.u]; rfl, GloK.any HGc.u hc4⟩)
    have hX4 := At.kept HX.u (GloK.any HGc.u hc4).2 (.inr rfl)
    have z2 := hX4.here (i := 2) rfl
    clear hc4 hX4
    go_wp2_with fail
    go_roundw
    case rel => exact ⟨k + 1, by omega, by go_num, HNx⟩
    case measure => simp [intOf]; omega
   have hke : k = N := by omega
   subst hke
   have HF := J (show GloK RT R w wr p (ticksN k m) by rw [← hm]; exact GloK.unbox HC.u hc)
   clear hm hc HM hX
   go_wp2_with fail
   go_ret
   exact ⟨rfl, HF.u⟩
 have HIn := J (fun (W : World) => refInF n 1 1000 W (by omega))
 have e1 : tickE m n = 1 := by unfold tickE; rw [if_pos (by omega)]
 have e2 : tickW m n = m := by unfold tickW; rw [e1]; rfl
 rw [e1, e2]
 clear h0 e1 e2
 go_upto_region 5 with fail
 go_quiet ((go_at_call 6; exact Calls.quiet_of_same (HIn.u _)))
 all_goals
  go_wp2_with fail
  go_ret
  exact ⟨rfl, HD.u _⟩
theorem gloDoNo (k a n : Int) (h : GloN RT R w p m) (hk : k < 1 ∨ 13 < k) :
  Calls Tryz.prog 9 #[.pointer (some ⟨p.g, 0, none⟩), .agg #[.int .i64 k, .int .i64 a, .int .i64 n]] w (GloPost RT R w p (.int .i64 (doE m k a n)) (doW m k a n)) := by
 have ne : ∀ c : Int, 1 ≤ c → c ≤ 13 → ¬ k = c := fun c h1 h2 e => by omega
 have HE := J (show doE m k a n = 1 by unfold doE; simp [ne])
 have HW := J (show doW m k a n = m by unfold doW; simp [ne])
 obtain ⟨hb1, hb2⟩ := h.boxed (.cells #[.int .i64 k, .int .i64 a, .int .i64 n] 37)
 have HD := J (show GloK RT R w (w.alloc (.cells #[.int .i64 k, .int .i64 a, .int .i64 n] 37)) p m from ⟨hb1.mono fun _ hb => .inl hb, hb2⟩)
 have b1 : (k == 1) = false := by simpa using ne 1 (by omega) (by omega)
 have b2 : (k == 2) = false := by simpa using ne 2 (by omega) (by omega)
 have b3 : (k == 3) = false := by simpa using ne 3 (by omega) (by omega)
 have b4 : (k == 4) = false := by simpa using ne 4 (by omega) (by omega)
 have b5 : (k == 5) = false := by simpa using ne 5 (by omega) (by omega)
 have b6 : (k == 6) = false := by simpa using ne 6 (by omega) (by omega)
 have b7 : (k == 7) = false := by simpa using ne 7 (by omega) (by omega)
 have b8 : (k == 8) = false := by simpa using ne 8 (by omega) (by omega)
 have b9 : (k == 9) = false := by simpa using ne 9 (by omega) (by omega)
 have b10 : (k == 10) = false := by simpa using ne 10 (by omega) (by omega)
 have b11 : (k == 11) = false := by simpa using ne 11 (by omega) (by omega)
 have b12 : (k == 12) = false := by simpa using ne 12 (by omega) (by omega)
 have b13 : (k == 13) = false := by simpa using ne 13 (by omega) (by omega)
 rw [HE.u, HW.u]
 clear hb1 hb2 h hk HE HW ne
 go_enter Tryz.func9, Tryz.ntmps9
 go_wp2_with fail
 go_ret
 exact ⟨rfl, HD.u⟩
theorem gloDo (k a n : Int) (h : GloN RT R w p m) (hk : m.ok j) (hf : m.fit) (hj : j ≤ 87000) (n0 : -9223372036854775808 ≤ n) (n1 : n ≤ 9223372036854775807) :
  Calls Tryz.prog 9 #[.pointer (some ⟨p.g, 0, none⟩), .agg #[.int .i64 k, .int .i64 a, .int .i64 n]] w (GloPost RT R w p (.int .i64 (doE m k a n)) (doW m k a n)) := by
 by_cases hno : k < 1 ∨ 13 < k
 ·exact gloDoNo k a n h hno
 rcases (show k = 1 ∨ k = 2 ∨ k = 3 ∨ k = 4 ∨ k = 5 ∨ k = 6 ∨ k = 7 ∨ k = 8 ∨ k = 9 ∨ k = 10 ∨ k = 11 ∨ k = 12 ∨ k = 13 by omega) with rfl | rfl | rfl | rfl | rfl | rfl | rfl | rfl | rfl | rfl | rfl | rfl | rfl
 ·exact gloDo1 a n h hk hj n0 n1
 ·exact gloDo2 a n h hk
 ·exact gloDo3 a n h hk
 ·exact gloDo4 a n h hk (by omega)
 ·exact gloDo5 a n h hk
 ·exact gloDo6 a n h hk hf.up
 ·exact gloDo7 a n h hk (by have := hk.fails; have := (planE_ok hk.lp.plan).few; omega)
 ·exact gloDo8 a n h hk
 ·exact gloDo9 a n h hk
 ·exact gloDo10 a n h hk
 ·exact gloDo11 a n h hk hf.good
 ·exact gloDo12 a n h hk
 exact gloDo13 a n h hk
end
end Go.Proofs.YtidonhndeohdlaaGreat
