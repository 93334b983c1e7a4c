/- Parts of this claim: NumC, CivM, CivC, CivD, StbM, NeedM, TopC, TopD, TopN. -/
import Derived.StillTailTactics
import Derived.Deep.RegionHeld3
import Derived.Laws.MakeOwn
import Derived.Test.YtoidcbpcnikejaaGreatDoorDq00
set_option linter.unusedVariables false
set_option linter.unusedSimpArgs false
set_option maxRecDepth 100000
set_option maxHeartbeats 12800000
namespace Go.Proofs.YtoidcbpcnikejaaGreatDoor
open Go.RowKit
theorem numClip (n : Int) (w : World) : Calls Tryz.prog 169 #[.int .i64 n] w fun e w' => e = .returned (.int .i64 (G.clip n)) ∧ w = w' := by
 have k := G.clip_spec n
 by_cases h1 : n < -1000000000000000
 ·go_enter Tryz.func169, Tryz.ntmps169
  go_wp2
  go_ret
  exact ⟨ret_int (by omega), rfl⟩
 by_cases h2 : 1000000000000000 < n
 ·go_enter Tryz.func169, Tryz.ntmps169
  go_wp2
  go_ret
  exact ⟨ret_int (by omega), rfl⟩
 go_enter Tryz.func169, Tryz.ntmps169
 go_wp2
 go_ret
 exact ⟨ret_int (by omega), rfl⟩
theorem numAdd (a b : Int) (w : World) : Calls Tryz.prog 131 #[.int .i64 a, .int .i64 b] w fun e w' => e = .returned (.int .i64 (G.addc a b)) ∧ w = w' := by
 have a0 := G.clip_lo a; have a1 := G.clip_hi a; have b0 := G.clip_lo b; have b1 := G.clip_hi b
 go_enter Tryz.func131, Tryz.ntmps131
 go_wp2_with (go_at_call 169; refine (numClip _ _).mono ?_; rintro e w' ⟨rfl, rfl⟩)
 go_ret
 exact ⟨rfl, rfl⟩
theorem numSub (a b : Int) (w : World) : Calls Tryz.prog 201 #[.int .i64 a, .int .i64 b] w fun e w' => e = .returned (.int .i64 (G.subc a b)) ∧ w = w' := by
 have a0 := G.clip_lo a; have a1 := G.clip_hi a; have b0 := G.clip_lo b; have b1 := G.clip_hi b
 go_enter Tryz.func201, Tryz.ntmps201
 go_wp2_with (go_at_call 169; refine (numClip _ _).mono ?_; rintro e w' ⟨rfl, rfl⟩)
 go_ret
 exact ⟨rfl, rfl⟩
theorem wrap_small {n : Int} (h0 : -1000000000000000 ≤ n) (h1 : n ≤ 1000000000000000) : wrap64 n = n := IntWalk.wrap64_in n (by omega)
theorem quo_neg {B : Int} (h : B < 0) : wrap64 (-Int.tdiv 1000000000000000 B) = 1000000000000000 / -B := by
 rw [← Int.tdiv_neg, Int.tdiv_eq_ediv_of_nonneg (by omega)]
 exact wrap_small (by have := Int.ediv_nonneg (a := 1000000000000000) (b := -B) (by omega) (by omega); omega) (Int.ediv_le_self _ (by omega))
theorem mul_close_in {a b x y : Int} (hx : x = max a (-a)) (hy : y = max b (-b)) (hb : b ≠ 0) (h : x ≤ 1000000000000000 / y) : wrap64 (a * b) = G.clip (a * b) := by
 have e := G.mul_in hx hy hb h
 have h0 := G.clip_lo (a * b); have h1 := G.clip_hi (a * b)
 rw [e] at h0 h1 ⊢
 exact wrap_small h0 h1
theorem numMul (a b : Int) (w : World) : Calls Tryz.prog 200 #[.int .i64 a, .int .i64 b] w fun e w' => e = .returned (.int .i64 (G.mulc a b)) ∧ w = w' := by
 have a0 := G.clip_lo a; have a1 := G.clip_hi a; have b0 := G.clip_lo b; have b1 := G.clip_hi b
 by_cases hA : G.clip a = 0
 ·have hz : Hid (G.mulc a b = 0) := G.mulc_zero_left hA
  go_enter Tryz.func200, Tryz.ntmps200
  go_wp2_with (go_at_call 169; refine (numClip _ _).mono ?_; rintro e w' ⟨rfl, rfl⟩)
  all_goals
   go_ret
   exact ⟨ret_int hz.u.symm, rfl⟩
 have hA' : (G.clip a == 0) = false := by simp [hA]
 by_cases hB : G.clip b = 0
 ·have hz : Hid (G.mulc a b = 0) := G.mulc_zero_right hB
  clear hA
  go_enter Tryz.func200, Tryz.ntmps200
  go_wp2_with (go_at_call 169; refine (numClip _ _).mono ?_; rintro e w' ⟨rfl, rfl⟩)
  all_goals
   go_ret
   exact ⟨ret_int hz.u.symm, rfl⟩
 have hB' : (G.clip b == 0) = false := by simp [hB]
 have hmul : Hid (G.mulc a b = G.clip (G.clip a * G.clip b)) := rfl
 rcases Int.lt_or_lt_of_ne hA with ha | ha <;> rcases Int.lt_or_lt_of_ne hB with hb | hb
 ·have ki := fun h => @mul_close_in (G.clip a) (G.clip b) (-G.clip a) (-G.clip b) (by omega) (by omega) hB h
  have ko := fun h => @G.mul_out (G.clip a) (G.clip b) (-G.clip a) (-G.clip b) (by omega) (by omega) hB h
  have KI := J ki; have KO := J ko; have hq := J (quo_neg hb)
  clear hA hB ki ko
  go_enter Tryz.func200, Tryz.ntmps200
  go_wp2_with (go_at_call 169; refine (numClip _ _).mono ?_; rintro e w' ⟨rfl, rfl⟩)
  all_goals
   go_ret
   refine ⟨ret_int ?_, rfl⟩
   rw [hmul.u]
   first
    | exact KI.u (by rw [← hq.u]; assumption)
    | (rw [KO.u (by rw [← hq.u]; omega)]; simp_all; done)
    | (rw [KO.u (by rw [← hq.u]; omega)]; rw [if_pos (by simp; omega)])
    | (rw [KO.u (by rw [← hq.u]; omega)]; rw [if_neg (by simp; omega)])
 ·have ki := fun h => @mul_close_in (G.clip a) (G.clip b) (-G.clip a) (G.clip b) (by omega) (by omega) hB h
  have ko := fun h => @G.mul_out (G.clip a) (G.clip b) (-G.clip a) (G.clip b) (by omega) (by omega) hB h
  have KI := J ki; have KO := J ko; skip
  clear hA hB ki ko
  go_enter Tryz.func200, Tryz.ntmps200
  go_wp2_with (go_at_call 169; refine (numClip _ _).mono ?_; rintro e w' ⟨rfl, rfl⟩)
  all_goals
   go_ret
   refine ⟨ret_int ?_, rfl⟩
   rw [hmul.u]
   first
    | exact KI.u (by skip; assumption)
    | (rw [KO.u (by skip; omega)]; simp_all; done)
    | (rw [KO.u (by skip; omega)]; rw [if_pos (by simp; omega)])
    | (rw [KO.u (by skip; omega)]; rw [if_neg (by simp; omega)])
 ·have ki := fun h => @mul_close_in (G.clip a) (G.clip b) (G.clip a) (-G.clip b) (by omega) (by omega) hB h
  have ko := fun h => @G.mul_out (G.clip a) (G.clip b) (G.clip a) (-G.clip b) (by omega) (by omega) hB h
  have KI := J ki; have KO := J ko; have hq := J (quo_neg hb)
  clear hA hB ki ko
  go_enter Tryz.func200, Tryz.ntmps200
  go_wp2_with (go_at_call 169; refine (numClip _ _).mono ?_; rintro e w' ⟨rfl, rfl⟩)
  all_goals
   go_ret
   refine ⟨ret_int ?_, rfl⟩
   rw [hmul.u]
   first
    | exact KI.u (by rw [← hq.u]; assumption)
    | (rw [KO.u (by rw [← hq.u]; omega)]; simp_all; done)
    | (rw [KO.u (by rw [← hq.u]; omega)]; rw [if_pos (by simp; omega)])
    | (rw [KO.u (by rw [← hq.u]; omega)]; rw [if_neg (by simp; omega)])
 have ki := fun h => @mul_close_in (G.clip a) (G.clip b) (G.clip a) (G.clip b) (by omega) (by omega) hB h
 have ko := fun h => @G.mul_out (G.clip a) (G.clip b) (G.clip a) (G.clip b) (by omega) (by omega) hB h
 have KI := J ki; have KO := J ko; skip
 clear hA hB ki ko
 go_enter Tryz.func200, Tryz.ntmps200
 go_wp2_with (go_at_call 169; refine (numClip _ _).mono ?_; rintro e w' ⟨rfl, rfl⟩)
 all_goals
  go_ret
  refine ⟨ret_int ?_, rfl⟩
  rw [hmul.u]
  first
   | exact KI.u (by skip; assumption)
   | (rw [KO.u (by skip; omega)]; simp_all; done)
   | (rw [KO.u (by skip; omega)]; rw [if_pos (by simp; omega)])
   | (rw [KO.u (by skip; omega)]; rw [if_neg (by simp; omega)])
theorem tdiv_floor (a b : Int) (hb : 0 < b) : (if a.tmod b < 0 then a.tdiv b - 1 else a.tdiv b) = a / b := by
 rw [Int.tdiv_eq_ediv, Int.tmod_eq_emod]
 have h1 := Int.emod_nonneg a (show b ≠ 0 by omega)
 have h2 := Int.emod_lt_of_pos a hb
 by_cases h : 0 ≤ a ∨ b ∣ a
 ·rw [if_pos h, if_pos h, if_neg (by omega)]; omega
 rw [if_neg h, if_neg h, if_pos (by omega), Int.sign_eq_one_of_pos hb]; omega
theorem tdiv_bd (a b : Int) (hb : 0 < b) (h0 : -4000000000000000000 ≤ a) (h1 : a ≤ 4000000000000000000) : -4000000000000000000 ≤ a.tdiv b ∧ a.tdiv b ≤ 4000000000000000000 := by
 rw [tdiv_eq_if]
 split
 ·have := IntWalk.tdiv_le a b (by omega) (by omega); omega
 have := IntWalk.tdiv_le (-a) b (by omega) (by omega); omega
theorem numFloor (a b : Int) (w : World) (hb : 1 ≤ b) (h0 : -4000000000000000000 ≤ a) (h1 : a ≤ 4000000000000000000) : Calls Tryz.prog 206 #[.int .i64 a, .int .i64 b] w fun e w' => e = .returned (.int .i64 (a / b)) ∧ w = w' := by
 have h := J (tdiv_floor a b (by omega))
 have hd := tdiv_bd a b (by omega) h0 h1
 obtain ⟨d0, d1⟩ := hd
 by_cases hm : a.tmod b < 0
 ·go_enter Tryz.func206, Tryz.ntmps206
  go_wp2
  go_ret
  exact ⟨ret_int (by have := h.u; rw [if_pos hm] at this; exact this), rfl⟩
 go_enter Tryz.func206, Tryz.ntmps206
 go_wp2
 go_ret
 exact ⟨ret_int (by have := h.u; rw [if_neg (by omega)] at this; exact this), rfl⟩
theorem numCeil_yes (a b : Int) (w : World) (h : 1 ≤ b) : Calls Tryz.prog 199 #[.int .i64 a, .int .i64 b] w fun e w' => e = .returned (.tuple #[.int .i64 (G.ceilc a b), .int .i64 0]) ∧ w = w' := by
 have a0 := G.clip_lo a; have a1 := G.clip_hi a; have b0 := G.clip_one h; have b1 := G.clip_hi b
 have c0 := G.ceil_lo a h; have c1 := G.ceil_hi a h
 unfold G.ceilc at c0 c1
 go_enter Tryz.func199, Tryz.ntmps199
 go_wp2_with (first | (go_at_call 169; refine (numClip _ _).mono ?_; rintro e w' ⟨rfl, rfl⟩) | (go_at_call 206; refine (numFloor _ _ _ (by omega) (by omega) (by omega)).mono ?_; rintro e w' ⟨rfl, rfl⟩))
 go_ret2
 exact ⟨rfl, rfl⟩
theorem numShare (a m : Int) (w : World) : Calls Tryz.prog 202 #[.int .i64 a, .int .i64 m] w fun e w' => e = .returned (.int .i64 (G.sharec a m)) ∧ w = w' := by
 obtain ⟨x, hx⟩ : ∃ x, (if a < 0 then 0 else a) = x := ⟨_, rfl⟩
 obtain ⟨y, hy⟩ : ∃ y, (if m < 0 then 0 else m) = y := ⟨_, rfl⟩
 have ex : G.pos a = G.clip x := by unfold G.pos; congr 1; omega
 have ey : G.pos m = G.clip y := by unfold G.pos; congr 1; omega
 have x0 : 0 ≤ G.clip x := G.clip_nonneg (by omega)
 have y0 : 0 ≤ G.clip y := G.clip_nonneg (by omega)
 have x1 := G.clip_hi x; have y1 := G.clip_hi y
 have hs : Hid (G.sharec a m = G.addc (G.addc (G.mulc (G.clip x / 1000) (G.clip y)) (G.mulc (G.clip x % 1000) (G.clip y / 1000))) (G.clip x % 1000 * (G.clip y % 1000) / 1000)) := by
  unfold G.sharec Hid
  rw [ex, ey, ← G.share_eq _ _ x0 y0 x1 y1]
  unfold G.addc
  rw [G.clip_clip]
  have e1 : G.clip (G.clip x % 1000 * (G.clip y % 1000) / 1000) = G.clip x % 1000 * (G.clip y % 1000) / 1000 := by
   have h0 : 0 ≤ G.clip x % 1000 * (G.clip y % 1000) := Int.mul_nonneg (by omega) (by omega)
   have h1 : G.clip x % 1000 * (G.clip y % 1000) ≤ 1000 * 1000 := Int.mul_le_mul (by omega) (by omega) (by omega) (by omega)
   exact G.clip_id (by omega) (by omega)
  rw [e1]
  unfold G.mulc
  simp only [G.clip_clip]
 have h0 : 0 ≤ G.clip x % 1000 * (G.clip y % 1000) := Int.mul_nonneg (by omega) (by omega)
 have h1 : G.clip x % 1000 * (G.clip y % 1000) ≤ 1000 * 1000 := Int.mul_le_mul (by omega) (by omega) (by omega) (by omega)
 clear ex ey
 go_enter Tryz.func202, Tryz.ntmps202
 go_wp2_with (first | (go_at_call 169; refine (numClip _ _).mono ?_; rintro e w' ⟨rfl, rfl⟩) | (go_at_call 200; refine (numMul _ _ _).mono ?_; rintro e w' ⟨rfl, rfl⟩) | (go_at_call 131; refine (numAdd _ _ _).mono ?_; rintro e w' ⟨rfl, rfl⟩))
 go_ret
 exact ⟨ret_int hs.u.symm, rfl⟩
end Go.Proofs.YtoidcbpcnikejaaGreatDoor
namespace G
def years (y : Int) : Int := 365 * y + (y + 3) / 4 - (y + 99) / 100 + (y + 399) / 400
def leap (y : Int) : Prop := y % 400 = 0 ∨ (y % 4 = 0 ∧ y % 100 ≠ 0)
instance (y : Int) : Decidable (leap y) := by unfold leap; infer_instance
def long (y m : Int) : Int := if m = 2 then (if leap y then 29 else 28) else if m = 4 ∨ m = 6 ∨ m = 9 ∨ m = 11 then 30 else 31
def cum (y m : Int) : Int := (367 * m - 362) / 12 + (if m ≤ 2 then 0 else if leap y then -1 else -2)
def dayno (y m d : Int) : Int := years y - years 1970 + d - 1 + cum y m
def valid (y m d : Int) : Prop := 1 ≤ m ∧ m ≤ 12 ∧ 1 ≤ d ∧ d ≤ long y m
theorem twelve {m : Int} (h1 : 1 ≤ m) (h2 : m ≤ 12) : m = 1 ∨ m = 2 ∨ m = 3 ∨ m = 4 ∨ m = 5 ∨ m = 6 ∨ m = 7 ∨ m = 8 ∨ m = 9 ∨ m = 10 ∨ m = 11 ∨ m = 12 := by omega
theorem leap_iff (y : Int) : leap y ↔ years (y + 1) = years y + 366 := by unfold leap years; omega
theorem not_leap_iff (y : Int) : ¬ leap y ↔ years (y + 1) = years y + 365 := by unfold leap years; omega
theorem years_succ (y : Int) : years (y + 1) = years y + 365 + (if leap y then 1 else 0) := by
 split <;> rename_i h
 ·have := (leap_iff y).1 h; omega
 have := (not_leap_iff y).1 h; omega
theorem years_1970 : years 1970 = 719528 := by decide
theorem cum_bd (y m : Int) (h1 : 1 ≤ m) (h2 : m ≤ 12) : 0 ≤ cum y m ∧ cum y m + long y m ≤ 365 + (if leap y then 1 else 0) := by
 unfold cum long
 by_cases hl : leap y <;> rcases twelve h1 h2 with rfl | rfl | rfl | rfl | rfl | rfl | rfl | rfl | rfl | rfl | rfl | rfl <;> simp [hl]
theorem years_mono {a b : Int} (h : a ≤ b) : years a ≤ years b := by unfold years; omega
theorem years_le {a b : Int} (h : a < b) : years a + 365 + (if leap a then 1 else 0) ≤ years b := by
 have h1 := years_succ a; have h2 := years_mono (show a + 1 ≤ b by omega); omega
/-! the date, by eras of 400 years -/
def eo (n : Int) : Int := (n + 719468) % 146097
def ye (n : Int) : Int := (eo n - eo n / 1460 + eo n / 36524 - eo n / 146096) / 365
def dd (n : Int) : Int := eo n - (365 * ye n + ye n / 4 - ye n / 100)
def mp (n : Int) : Int := (5 * dd n + 2) / 153
def dyOf (n : Int) : Int := dd n - (153 * mp n + 2) / 5 + 1
def yr0 (n : Int) : Int := ye n + (n + 719468) / 146097 * 400
def yrOf (n : Int) : Int := if 12 < mp n + 3 then yr0 n + 1 else yr0 n
def moOf (n : Int) : Int := if 12 < mp n + 3 then mp n - 9 else mp n + 3
theorem core2 (c r q2 v s : Nat) (hc : c ≤ 3) (hr : r < 36524) (hq : q2 = (24 * c + r) / 1460) (hs : s < 365) (e : 365 * v + s + q2 = r) :
  v ≤ 99 ∧ 365 * v + v / 4 ≤ r ∧ r - (365 * v + v / 4) ≤ 365 ∧ (r - (365 * v + v / 4) = 365 → v % 4 = 3 ∧ (v = 99 → c = 3)) := by
 obtain rfl | rfl | rfl | rfl : c = 0 ∨ c = 1 ∨ c = 2 ∨ c = 3 := by omega
 all_goals omega
theorem era_core (o : Nat) (h : o < 146097) :
  (o - o / 1460 + o / 36524 - o / 146096) / 365 ≤ 399 ∧
  365 * ((o - o / 1460 + o / 36524 - o / 146096) / 365) + (o - o / 1460 + o / 36524 - o / 146096) / 365 / 4 - (o - o / 1460 + o / 36524 - o / 146096) / 365 / 100 ≤ o ∧
  o - (365 * ((o - o / 1460 + o / 36524 - o / 146096) / 365) + (o - o / 1460 + o / 36524 - o / 146096) / 365 / 4 - (o - o / 1460 + o / 36524 - o / 146096) / 365 / 100) ≤ 365 ∧
  (o - (365 * ((o - o / 1460 + o / 36524 - o / 146096) / 365) + (o - o / 1460 + o / 36524 - o / 146096) / 365 / 4 - (o - o / 1460 + o / 36524 - o / 146096) / 365 / 100) = 365 →
   (((o - o / 1460 + o / 36524 - o / 146096) / 365 + 1) % 4 = 0 ∧ (((o - o / 1460 + o / 36524 - o / 146096) / 365 + 1) % 100 ≠ 0 ∨ ((o - o / 1460 + o / 36524 - o / 146096) / 365 + 1) % 400 = 0))) := by
 by_cases h4 : o = 146096
 ·subst h4; decide
 obtain ⟨c, r, hc, hr, rfl⟩ : ∃ c r, c ≤ 3 ∧ r < 36524 ∧ o = 36524 * c + r := ⟨o / 36524, o % 36524, by omega, by omega, by omega⟩
 have e1 : (36524 * c + r) / 36524 = c := by omega
 have e2 : (36524 * c + r) / 146096 = 0 := by omega
 have e3 : (36524 * c + r) / 1460 = 25 * c + (24 * c + r) / 1460 := by omega
 rw [e1, e2, e3]
 have e4 : 36524 * c + r - (25 * c + (24 * c + r) / 1460) + c - 0 = 36500 * c + (r - (24 * c + r) / 1460) := by omega
 have e5 : (36500 * c + (r - (24 * c + r) / 1460)) / 365 = 100 * c + (r - (24 * c + r) / 1460) / 365 := by omega
 rw [e4, e5]
 have k := core2 c r ((24 * c + r) / 1460) ((r - (24 * c + r) / 1460) / 365) ((r - (24 * c + r) / 1460) % 365) hc hr rfl (by omega) (by omega)
 generalize (r - (24 * c + r) / 1460) / 365 = v at *
 clear e1 e2 e3 e4 e5
 omega
theorem era_int (n : Int) : 0 ≤ ye n ∧ ye n ≤ 399 ∧ 0 ≤ dd n ∧ dd n ≤ 365 ∧ (dd n = 365 → leap (ye n + 1)) ∧ eo n = 365 * ye n + ye n / 4 - ye n / 100 + dd n := by
 have h0 : 0 ≤ eo n := by unfold eo; omega
 have h1 : eo n < 146097 := by unfold eo; omega
 have k := era_core (eo n).toNat (by omega)
 have hy : ye n = ((((eo n).toNat - (eo n).toNat / 1460 + (eo n).toNat / 36524 - (eo n).toNat / 146096) / 365 : Nat) : Int) := by unfold ye; omega
 have hd : dd n = eo n - (365 * ye n + ye n / 4 - ye n / 100) := rfl
 generalize ((eo n).toNat - (eo n).toNat / 1460 + (eo n).toNat / 36524 - (eo n).toNat / 146096) / 365 = v at *
 obtain ⟨k1, k2, k3, k4⟩ := k
 generalize ye n = y at *
 generalize dd n = d at *
 subst hy
 refine ⟨by omega, by omega, by omega, by omega, ?_, by omega⟩
 intro h365
 have := k4 (by omega)
 unfold leap
 omega
theorem years_era (y e : Int) : years (y + e * 400) = years y + 146097 * e := by unfold years; omega
theorem years_next (y : Int) (h0 : 0 ≤ y) (h1 : y ≤ 399) : years (y + 1) = 365 * y + y / 4 - y / 100 + 366 := by unfold years; omega
theorem mp_bd (n : Int) : 0 ≤ mp n ∧ mp n ≤ 11 := by have := era_int n; unfold mp; omega
theorem cum_mar (y m : Int) (h : 3 ≤ m) : years y + cum y m = years (y + 1) - 367 + (367 * m - 362) / 12 := by
 have := years_succ y
 unfold cum
 rw [if_neg (by omega)]
 by_cases hl : leap y
 ·rw [if_pos hl] at this ⊢; omega
 rw [if_neg hl] at this ⊢; omega
theorem date_dayno (n : Int) : dayno (yrOf n) (moOf n) (dyOf n) = n := by
 obtain ⟨h1, h2, h3, h4, h5, h6⟩ := era_int n
 obtain ⟨m1, m2⟩ := mp_bd n
 have hm : mp n = (5 * dd n + 2) / 153 := rfl
 have he : n + 719468 = 146097 * ((n + 719468) / 146097) + eo n := by unfold eo; omega
 have hn := years_next (ye n) h1 h2
 unfold dayno yrOf moOf dyOf yr0
 rw [years_1970]
 generalize (n + 719468) / 146097 = E at *
 by_cases hc : 12 < mp n + 3
 ·rw [if_pos hc, if_pos hc, show ye n + E * 400 + 1 = (ye n + 1) + E * 400 by omega, years_era]
  unfold cum
  rw [if_pos (by omega)]
  generalize mp n = M at *
  generalize dd n = D at *
  clear h5
  omega
 rw [if_neg hc, if_neg hc]
 have k := cum_mar (ye n + E * 400) (mp n + 3) (by omega)
 rw [show ye n + E * 400 + 1 = (ye n + 1) + E * 400 by omega, years_era (ye n + 1)] at k
 generalize cum (ye n + E * 400) (mp n + 3) = C at *
 generalize years (ye n + E * 400) = Z at *
 generalize years (ye n + 1) = Z1 at *
 generalize mp n = M at *
 generalize dd n = D at *
 clear h5
 obtain rfl | rfl | rfl | rfl | rfl | rfl | rfl | rfl | rfl | rfl : M = 0 ∨ M = 1 ∨ M = 2 ∨ M = 3 ∨ M = 4 ∨ M = 5 ∨ M = 6 ∨ M = 7 ∨ M = 8 ∨ M = 9 := by omega
 all_goals omega
theorem leap_era (y k : Int) : leap (y + k * 400) ↔ leap y := by unfold leap; omega
theorem date_valid (n : Int) : valid (yrOf n) (moOf n) (dyOf n) := by
 obtain ⟨h1, h2, h3, h4, h5, h6⟩ := era_int n
 obtain ⟨m1, m2⟩ := mp_bd n
 have hm : mp n = (5 * dd n + 2) / 153 := rfl
 unfold valid yrOf moOf dyOf yr0 long
 by_cases hc : 12 < mp n + 3
 ·rw [if_pos hc, if_pos hc]
  have e : ye n + (n + 719468) / 146097 * 400 + 1 = (ye n + 1) + (n + 719468) / 146097 * 400 := by omega
  rw [e]
  simp only [leap_era]
  by_cases hl : leap (ye n + 1)
  ·simp only [hl, if_true]
   generalize mp n = M at *
   generalize dd n = D at *
   clear h5 h6 e
   obtain rfl | rfl : M = 10 ∨ M = 11 := by omega
   all_goals simp
   all_goals omega
  have h5' : dd n ≠ 365 := fun h => hl (h5 h)
  simp only [hl, if_false]
  generalize mp n = M at *
  generalize dd n = D at *
  clear h5 h6 e
  obtain rfl | rfl : M = 10 ∨ M = 11 := by omega
  all_goals simp
  all_goals omega
 rw [if_neg hc, if_neg hc]
 generalize mp n = M at *
 generalize dd n = D at *
 clear h5 h6
 obtain rfl | rfl | rfl | rfl | rfl | rfl | rfl | rfl | rfl | rfl : M = 0 ∨ M = 1 ∨ M = 2 ∨ M = 3 ∨ M = 4 ∨ M = 5 ∨ M = 6 ∨ M = 7 ∨ M = 8 ∨ M = 9 := by omega
 all_goals simp
 all_goals omega
theorem yrOf_lo {n y : Int} (h : years y - years 1970 ≤ n) : y ≤ yrOf n := by
 have hv := date_valid n; have hd := date_dayno n
 obtain ⟨a1, a2, a3, a4⟩ := hv
 have c1 := cum_bd (yrOf n) (moOf n) a1 a2
 rcases Int.lt_or_le (yrOf n) y with hl | hl
 ·have := years_le hl
  unfold dayno at hd
  omega
 exact hl
theorem yrOf_hi {n y : Int} (h : n < years (y + 1) - years 1970) : yrOf n ≤ y := by
 have hv := date_valid n; have hd := date_dayno n
 obtain ⟨a1, a2, a3, a4⟩ := hv
 have c1 := cum_bd (yrOf n) (moOf n) a1 a2
 rcases Int.lt_or_le y (yrOf n) with hl | hl
 ·have := years_mono (show y + 1 ≤ yrOf n by omega)
  unfold dayno at hd
  omega
 exact hl
end G
namespace Go.Proofs.YtoidcbpcnikejaaGreatDoor
open Go.RowKit
theorem ret_int3 {k k' k'' : IntKind} {a b c d e f : Int} (h : a = b) (h' : c = d) (h'' : e = f) : Ending.returned (.tuple #[.int k a, .int k' c, .int k'' e]) = .returned (.tuple #[.int k b, .int k' d, .int k'' f]) := by rw [h, h', h'']
theorem civFloor (a b : Int) (w : World) (hb : 1 ≤ b) (h0 : -4000000000000000000 ≤ a) (h1 : a ≤ 4000000000000000000) : Calls Tryz.prog 69 #[.int .i64 a, .int .i64 b] w fun e w' => e = .returned (.int .i64 (a / b)) ∧ w = w' := by
 have h := J (tdiv_floor a b (by omega))
 have hd := tdiv_bd a b (by omega) h0 h1
 obtain ⟨d0, d1⟩ := hd
 by_cases hm : a.tmod b < 0
 ·go_enter Tryz.func69, Tryz.ntmps69
  go_wp2
  go_ret
  exact ⟨ret_int (by have := h.u; rw [if_pos hm] at this; exact this), rfl⟩
 go_enter Tryz.func69, Tryz.ntmps69
 go_wp2
 go_ret
 exact ⟨ret_int (by have := h.u; rw [if_neg (by omega)] at this; exact this), rfl⟩
open Go.RowKit
def okDate (y m d : Int) : Prop := -4000 ≤ y ∧ y ≤ 8000 ∧ G.valid y m d
instance (y m d : Int) : Decidable (okDate y m d) := by unfold okDate G.valid; infer_instance
theorem civDate (n : Int) (w : World) (n0 : -4000000 ≤ n) (n1 : n ≤ 4000000) : Calls Tryz.prog 70 #[.int .i64 n] w fun e w' => e = .returned (.tuple #[.int .i64 (G.yrOf n), .int .i64 (G.moOf n), .int .i64 (G.dyOf n)]) ∧ w = w' := by
 have ho : n + 719468 - (n + 719468) / 146097 * 146097 = G.eo n := by unfold G.eo; omega
 obtain ⟨h1, h2, h3, h4, h5, h6⟩ := G.era_int n
 clear h5 h6
 have o0 : 0 ≤ G.eo n := by unfold G.eo; omega
 have o1 : G.eo n < 146097 := by unfold G.eo; omega
 have hy : (G.eo n - G.eo n / 1460 + G.eo n / 36524 - G.eo n / 146096) / 365 = G.ye n := rfl
 have hd : G.eo n - (365 * G.ye n + G.ye n / 4 - G.ye n / 100) = G.dd n := rfl
 have hm : (5 * G.dd n + 2) / 153 = G.mp n := rfl
 obtain ⟨m0, m1⟩ := G.mp_bd n
 have hdy : Hid (G.dd n - (153 * G.mp n + 2) / 5 + 1 = G.dyOf n) := rfl
 by_cases hc : 12 < G.mp n + 3
 ·have k1 : Hid (G.ye n + (n + 719468) / 146097 * 400 + 1 = G.yrOf n) := by show _ = _; unfold G.yrOf G.yr0; rw [if_pos hc]
  have k2 : Hid (G.mp n + 3 - 12 = G.moOf n) := by show _ = _; unfold G.moOf; rw [if_pos hc]; omega
  go_enter Tryz.func70, Tryz.ntmps70
  go_wp2_with (first | (go_at_call 69; refine (civFloor _ _ _ (by omega) (by omega) (by omega)).mono ?_; rintro e w' ⟨rfl, rfl⟩))
  go_ret3
  exact ⟨ret_int3 k1.u k2.u hdy.u, rfl⟩
 have k1 : Hid (G.ye n + (n + 719468) / 146097 * 400 = G.yrOf n) := by show _ = _; unfold G.yrOf G.yr0; rw [if_neg hc]
 have k2 : Hid (G.mp n + 3 = G.moOf n) := by show _ = _; unfold G.moOf; rw [if_neg hc]
 go_enter Tryz.func70, Tryz.ntmps70
 go_wp2_with (first | (go_at_call 69; refine (civFloor _ _ _ (by omega) (by omega) (by omega)).mono ?_; rintro e w' ⟨rfl, rfl⟩))
 go_ret3
 exact ⟨ret_int3 k1.u k2.u hdy.u, rfl⟩
def civZero : Value := .agg #[.int .i64 0, .int .i64 0, .int .i64 0, .int .i64 0, .int .i64 0, .int .i64 0, .int .i64 0]
def civAgg (s h : Int) : Value := .agg #[.int .i64 (G.yrOf ((s + 60 * h) / 86400)), .int .i64 (G.moOf ((s + 60 * h) / 86400)), .int .i64 (G.dyOf ((s + 60 * h) / 86400)), .int .i64 ((s + 60 * h) % 86400 / 3600), .int .i64 ((s + 60 * h) % 86400 / 60 % 60), .int .i64 ((s + 60 * h) % 86400 % 60), .int .i64 (((s + 60 * h) / 86400 + 4) % 7)]
def okTime (s h : Int) : Prop := -100000000000 ≤ s ∧ s ≤ 100000000000 ∧ -900 ≤ h ∧ h ≤ 900
instance (s h : Int) : Decidable (okTime s h) := by unfold okTime; infer_instance
theorem civOf_no (s h : Int) (w : World) (hb : ¬ okTime s h) : Calls Tryz.prog 50 #[.int .i64 s, .int .i64 h] w fun e w' =>
  e = .returned (.tuple #[civZero, .int .i64 1]) ∧ Below w.heap.size w w' := by
 have hc : s < -100000000000 ∨ (-100000000000 ≤ s ∧ 100000000000 < s) ∨ (-100000000000 ≤ s ∧ s ≤ 100000000000 ∧ h < -900) ∨ (-100000000000 ≤ s ∧ s ≤ 100000000000 ∧ -900 ≤ h ∧ 900 < h) := by unfold okTime at hb; omega
 clear hb
 rcases hc with hc | ⟨hc, hd⟩ | ⟨hc, hd, he⟩ | ⟨hc, hd, he, hf⟩
 all_goals
  go_enter Tryz.func50, Tryz.ntmps50
  go_wp2
  refine bodyPost_ret (v := .tuple #[.agg #[.int .i64 0, .int .i64 0, .int .i64 0, .int .i64 0, .int .i64 0, .int .i64 0, .int .i64 0], .int .i64 1]) (by simp [results, Tryz.results50, go_sem]) rfl ⟨rfl, ?_⟩
  go_grown
theorem civOf_yes (s h : Int) (w : World) (hb : okTime s h) : Calls Tryz.prog 50 #[.int .i64 s, .int .i64 h] w fun e w' =>
  e = .returned (.tuple #[civAgg s h, .int .i64 0]) ∧ Below w.heap.size w w' := by
 obtain ⟨b0, b1, b2, b3⟩ := hb
 have em : s + 60 * h - (s + 60 * h) / 86400 * 86400 = (s + 60 * h) % 86400 := by omega
 have ew : (s + 60 * h) / 86400 + 4 - 7 * (((s + 60 * h) / 86400 + 4) / 7) = ((s + 60 * h) / 86400 + 4) % 7 := by omega
 have y0 := G.yrOf_lo (n := (s + 60 * h) / 86400) (y := -4000) (by rw [G.years_1970]; unfold G.years; omega)
 have y1 := G.yrOf_hi (n := (s + 60 * h) / 86400) (y := 8000) (by rw [G.years_1970]; unfold G.years; omega)
 go_enter Tryz.func50, Tryz.ntmps50
 go_wp2_with (first | (go_at_call 69; refine (civFloor _ _ _ (by omega) (by omega) (by omega)).mono ?_; rintro e w' ⟨rfl, rfl⟩) | (go_at_call 70; refine (civDate _ _ (by omega) (by omega)).mono ?_; rintro e w' ⟨rfl, rfl⟩))
 refine bodyPost_ret (v := .tuple #[civAgg s h, .int .i64 0]) (by simp [results, Tryz.results50, go_sem, civAgg]) rfl ⟨rfl, ?_⟩
 go_grown
end Go.Proofs.YtoidcbpcnikejaaGreatDoor
namespace G
open Go
structure Pace where
 win : Int
 pods : Int
 pct : Int
 per : Int
def clipT (n : Int) : Int := min (max n 0) 100000
def Pace.fix (p : Pace) : Pace := ⟨clipT p.win, clipT p.pods, clipT p.pct, clipT p.per⟩
def Pace.ok (p : Pace) : Prop := (0 ≤ p.win ∧ p.win ≤ 100000) ∧ (0 ≤ p.pods ∧ p.pods ≤ 100000) ∧ (0 ≤ p.pct ∧ p.pct ≤ 100000) ∧ (0 ≤ p.per ∧ p.per ≤ 100000)
theorem clipT_bd (n : Int) : 0 ≤ clipT n ∧ clipT n ≤ 100000 := by unfold clipT; omega
theorem Pace.fix_ok (p : Pace) : p.fix.ok := ⟨clipT_bd _, clipT_bd _, clipT_bd _, clipT_bd _⟩
def Pace.limited (p : Pace) : Bool := decide (0 < p.per) && (decide (0 < p.pods) || decide (0 < p.pct))
abbrev Mark := Int × Int
def encM (m : Mark) : List Value := [.int .i64 m.1, .int .i64 m.2]
theorem encM_length (m : Mark) : (encM m).length = 2 := rfl
def behindL (l : List Mark) (at0 : Int) : List Mark := (l.reverse.takeWhile (fun m => decide (at0 < m.1))).reverse
theorem behind_eq {l : List Mark} {at0 : Int} {i : Nat} (hi : i ≤ l.length) (h : ∀ m ∈ l.drop i, at0 < m.1) (h0 : i = 0 ∨ ∃ m, l[i - 1]? = some m ∧ m.1 ≤ at0) : behindL l at0 = l.drop i := by
 have e : l.reverse = (l.drop i).reverse ++ (l.take i).reverse := by rw [← List.reverse_append, List.take_append_drop]
 unfold behindL
 rw [e, List.takeWhile_append_of_pos (fun m hm => by simpa using h m (List.mem_reverse.1 hm))]
 have : (l.take i).reverse.takeWhile (fun m => decide (at0 < m.1)) = [] := by
  rcases h0 with h0 | ⟨m, hm, hle⟩
  ·subst h0; simp
  have hp : 0 < i := by
   rcases Nat.eq_zero_or_pos i with hz | hz
   ·exfalso; subst hz
    have := h m (by simpa using List.mem_of_getElem? hm)
    omega
   exact hz
  have : l.take i = l.take (i - 1) ++ [m] := by
   have := take_of_get hm
   rwa [show i - 1 + 1 = i by omega] at this
  have hd : decide (at0 < m.1) = false := by simp; omega
  rw [this, List.reverse_append]
  simp only [List.reverse_cons, List.reverse_nil, List.nil_append, List.cons_append, List.takeWhile_cons, hd]
  rfl
 rw [this, List.append_nil, List.reverse_reverse]
theorem behindL_mem {l : List Mark} {at0 : Int} : ∀ m ∈ behindL l at0, m ∈ l := fun m hm => by
 unfold behindL at hm
 exact List.mem_reverse.1 ((List.takeWhile_sublist _).subset (List.mem_reverse.1 hm))
theorem behindL_length (l : List Mark) (at0 : Int) : (behindL l at0).length ≤ l.length := by
 unfold behindL
 rw [List.length_reverse]
 exact Nat.le_trans (List.takeWhile_sublist _).length_le (by rw [List.length_reverse]; exact Nat.le_refl _)
theorem ceilc_bd (a : Int) : -1000000000000000 ≤ ceilc a 100 ∧ ceilc a 100 ≤ 1000000000000000 := by
 have : -1000000000000000 ≤ clip a ∧ clip a ≤ 1000000000000000 := by unfold clip; split <;> (try split) <;> omega
 have e : clip 100 = 100 := by decide
 unfold ceilc; rw [e]; omega
theorem sharec_bd (a m : Int) : -1000000000000000 ≤ sharec a m ∧ sharec a m ≤ 1000000000000000 := by
 unfold sharec; unfold clip; split <;> (try split) <;> omega
theorem mul_bd {a b x y : Int} (h0 : 0 ≤ a) (h1 : a ≤ x) (h2 : 0 ≤ b) (h3 : b ≤ y) : 0 ≤ a * b ∧ a * b ≤ x * y := ⟨Int.mul_nonneg h0 h2, Int.mul_le_mul h1 h3 h2 (by omega)⟩
def minAll (l : List Mark) (x : Int) : Int := l.foldl (fun a m => min a m.2) x
def maxAll (l : List Mark) (x : Int) : Int := l.foldl (fun a m => max a m.2) x
def sumUp (l : List Mark) (x : Int) : Int := l.foldl (fun a m => a + max m.2 0) x
def sumDown (l : List Mark) (x : Int) : Int := l.foldl (fun a m => a + max (-m.2) 0) x
theorem fold_snoc {α β : Type} {f : β → α → β} {l : List α} {k : Nat} {m : α} {x : β} (h : l[k]? = some m) : (l.take (k + 1)).foldl f x = f ((l.take k).foldl f x) m := by rw [take_of_get h, List.foldl_append]; rfl
theorem minAll_bd : ∀ (l : List Mark) (x : Int), 0 ≤ x → x ≤ 50 → (∀ m ∈ l, 0 ≤ m.2 ∧ m.2 ≤ 50) → 0 ≤ minAll l x ∧ minAll l x ≤ 50
 | [], x, h0, h1, _ => ⟨h0, h1⟩
 | a :: l, x, h0, h1, h => by
  have := h a (by simp)
  exact minAll_bd l (min x a.2) (by omega) (by omega) (fun m hm => h m (by simp [hm]))
theorem maxAll_bd : ∀ (l : List Mark) (x : Int), 0 ≤ x → x ≤ 50 → (∀ m ∈ l, 0 ≤ m.2 ∧ m.2 ≤ 50) → 0 ≤ maxAll l x ∧ maxAll l x ≤ 50
 | [], x, h0, h1, _ => ⟨h0, h1⟩
 | a :: l, x, h0, h1, h => by
  have := h a (by simp)
  exact maxAll_bd l (max x a.2) (by omega) (by omega) (fun m hm => h m (by simp [hm]))
theorem sumUp_bd : ∀ (l : List Mark) (x : Int), (∀ m ∈ l, -50 ≤ m.2 ∧ m.2 ≤ 50) → x ≤ sumUp l x ∧ sumUp l x ≤ x + 50 * l.length
 | [], x, _ => ⟨by simp [sumUp], by simp [sumUp]⟩
 | a :: l, x, h => by
  have := h a (by simp)
  have ih := sumUp_bd l (x + max a.2 0) (fun m hm => h m (by simp [hm]))
  have e : sumUp (a :: l) x = sumUp l (x + max a.2 0) := rfl
  rw [e, List.length_cons]; omega
theorem sumDown_bd : ∀ (l : List Mark) (x : Int), (∀ m ∈ l, -50 ≤ m.2 ∧ m.2 ≤ 50) → x ≤ sumDown l x ∧ sumDown l x ≤ x + 50 * l.length
 | [], x, _ => ⟨by simp [sumDown], by simp [sumDown]⟩
 | a :: l, x, h => by
  have := h a (by simp)
  have ih := sumDown_bd l (x + max (-a.2) 0) (fun m hm => h m (by simp [hm]))
  have e : sumDown (a :: l) x = sumDown l (x + max (-a.2) 0) := rfl
  rw [e, List.length_cons]; omega
structure Stb where
 up : Pace
 down : Pace
 last : Int
 wanted : List Mark
 moved : List Mark
structure Stb.ok (s : Stb) (j : Nat) : Prop where
 up : s.up.ok
 down : s.down.ok
 last0 : 0 ≤ s.last
 last1 : s.last ≤ 1099511627776
 wan : ∀ m ∈ s.wanted, (0 ≤ m.2 ∧ m.2 ≤ 50) ∧ (0 ≤ m.1 ∧ m.1 ≤ s.last)
 mov : ∀ m ∈ s.moved, (-50 ≤ m.2 ∧ m.2 ≤ 50) ∧ (0 ≤ m.1 ∧ m.1 ≤ s.last)
 wsort : s.wanted.Pairwise (fun a b => a.1 ≤ b.1)
 msort : s.moved.Pairwise (fun a b => a.1 ≤ b.1)
 wlen : s.wanted.length ≤ j
 mlen : s.moved.length ≤ j
def baseUp (s : Stb) (now have0 : Int) : Int := max (have0 - sumUp (behindL s.moved (now - s.up.per)) 0) 0
def moreN (s : Stb) (now have0 want : Int) : Int :=
 let w1 := minAll (behindL s.wanted (now - s.up.win)) want
 max (if s.up.limited then min w1 (baseUp s now have0 + max s.up.pods (ceilc (baseUp s now have0 * s.up.pct) 100)) else w1) have0
def baseDown (s : Stb) (now have0 : Int) : Int := sumDown (behindL s.moved (now - s.down.per)) have0
def fewerN (s : Stb) (now have0 want : Int) : Int :=
 let w1 := maxAll (behindL s.wanted (now - s.down.win)) want
 min (if s.down.limited then max w1 (baseDown s now have0 - max s.down.pods (sharec (baseDown s now have0) (10 * s.down.pct))) else w1) have0
def settleOk (s : Stb) (now have0 want : Int) : Bool := decide (s.last ≤ now) && decide (now ≤ 1099511627776) && (decide (0 ≤ have0) && decide (have0 ≤ 50)) && (decide (0 ≤ want) && decide (want ≤ 50))
def Stb.seen (s : Stb) (now want : Int) : Stb := { s with last := now, wanted := s.wanted ++ [(now, want)] }
def settleN0 (s : Stb) (now have0 want : Int) : Int := if have0 < want then moreN s now have0 want else if want < have0 then fewerN s now have0 want else have0
def settleN (s : Stb) (now have0 want : Int) : Int := if settleOk s now have0 want then settleN0 (s.seen now want) now have0 want else 0
def settleE (s : Stb) (now have0 want : Int) : Int := if settleOk s now have0 want then 0 else 1
def Stb.went (s : Stb) (now n : Int) : Stb := { s with moved := s.moved ++ [(now, n)] }
def settleS (s : Stb) (now have0 want : Int) : Stb :=
 if settleOk s now have0 want then (if settleN0 (s.seen now want) now have0 want = have0 then s.seen now want else (s.seen now want).went now (settleN0 (s.seen now want) now have0 want - have0)) else s
end G
namespace G
def picks (kind : Int) (k : Nat) (x : Int) : Bool := decide (0 < x) && (decide (kind = 1) || decide (k = 0))
def metN (kind : Int) (f : Nat → Int) : Nat → Int
 | 0 => 0
 | k + 1 => if picks kind k (f k) then addc (metN kind f k) (f k) else metN kind f k
def metM (kind : Int) (f : Nat → Int) : Nat → Nat
 | 0 => 0
 | k + 1 => if picks kind k (f k) then metM kind f k + 1 else metM kind f k
def spot (xs : List Int) (i : Nat) : Int := (xs[i]?).getD 0
theorem spot_get {xs : List Int} {i : Nat} {x : Int} (h : xs[i]? = some x) : spot xs i = x := by unfold spot; rw [h]; rfl
theorem metM_le (kind : Int) (f : Nat → Int) (k : Nat) : metM kind f k ≤ k := by
 induction k with
 | zero => exact Nat.le_refl _
 | succ k ih => unfold metM; split <;> omega
end G
namespace Go.Proofs.YtoidcbpcnikejaaGreatDoor
open Go.RowKit
def partCells (l : List (Int × Int)) : List Value := l.flatMap fun p => [.int .i64 p.1, .int .i64 p.2]
theorem partCells_get0 : ∀ (l : List (Int × Int)) (k : Nat) (e o : Int), l[k]? = some (e, o) → (partCells l)[k * 2]? = some (.int .i64 e) ∧ (partCells l)[k * 2 + 1]? = some (.int .i64 o)
 | [], k, e, o, h => by simp at h
 | p :: l, 0, e, o, h => by
  simp at h; subst h; exact ⟨rfl, rfl⟩
 | p :: l, k + 1, e, o, h => by
  have := partCells_get0 l k e o (by simpa using h)
  have e1 : (k + 1) * 2 = k * 2 + 2 := by omega
  rw [e1]
  exact this
theorem partCells_set1 : ∀ (l : List (Int × Int)) (k : Nat) (e o e' : Int), l[k]? = some (e, o) → (partCells l).set (k * 2) (.int .i64 e') = partCells (l.set k (e', o))
 | [], k, e, o, e', h => by simp at h
 | p :: l, 0, e, o, e', h => by
  simp at h; subst h; rfl
 | p :: l, k + 1, e, o, e', h => by
  have := partCells_set1 l k e o e' (by simpa using h)
  have e1 : (k + 1) * 2 = k * 2 + 2 := by omega
  rw [e1]
  show _ :: _ :: (partCells l).set (k * 2) _ = _ :: _ :: partCells (l.set k _)
  rw [this]
theorem partCells_set2 : ∀ (l : List (Int × Int)) (k : Nat) (e o o' : Int), l[k]? = some (e, o) → (partCells l).set (k * 2 + 1) (.int .i64 o') = partCells (l.set k (e, o'))
 | [], k, e, o, e', h => by simp at h
 | p :: l, 0, e, o, e', h => by
  simp at h; subst h; rfl
 | p :: l, k + 1, e, o, e', h => by
  have := partCells_set2 l k e o e' (by simpa using h)
  have e1 : (k + 1) * 2 + 1 = k * 2 + 1 + 2 := by omega
  rw [e1]
  show _ :: _ :: (partCells l).set (k * 2 + 1) _ = _ :: _ :: partCells (l.set k _)
  rw [this]
structure TopicAt (w : World) (g p : Nat) (l : List (Int × Int)) : Prop where
 head : G.At w g 222 #[.slice (some ⟨p, 0, none⟩) l.length l.length]
 parts : G.At w p 234 (partCells l).toArray
 small : l.length ≤ 20
theorem TopicAt.apart {w : World} {g p : Nat} {l : List (Int × Int)} (h : TopicAt w g p l) : g ≠ p := h.head.apart h.parts (by decide)
theorem TopicAt.put1 {w : World} {g p : Nat} {l : List (Int × Int)} (h : TopicAt w g p l) {n : Nat} {e o : Int} (hn : l[n]? = some (e, o)) (e' : Int) :
  TopicAt ((w.setCell ⟨p, n * 2, none⟩ (.int .i64 e')).drew) g p (l.set n (e', o)) ∧ G.Chg (· = p) w ((w.setCell ⟨p, n * 2, none⟩ (.int .i64 e')).drew) := by
 refine ⟨⟨?_, ?_, by simpa using h.small⟩, ((G.Chg.refl (· = p) w).put (p := ⟨p, n * 2, none⟩) (.inl rfl) _).drew⟩
 ·have := (h.head.other (p := ⟨p, n * 2, none⟩) h.apart (.int .i64 e')).drew
  rw [List.length_set]; exact this
 have := (h.parts.put (n * 2) (.int .i64 e')).drew
 rw [← partCells_set1 l n e o e' hn]
 simpa using this
theorem TopicAt.put2 {w : World} {g p : Nat} {l : List (Int × Int)} (h : TopicAt w g p l) {n : Nat} {e o : Int} (hn : l[n]? = some (e, o)) (o' : Int) :
  TopicAt (w.setCell ⟨p, n * 2 + 1, none⟩ (.int .i64 o')) g p (l.set n (e, o')) ∧ G.Chg (· = p) w (w.setCell ⟨p, n * 2 + 1, none⟩ (.int .i64 o')) := by
 refine ⟨⟨?_, ?_, by simpa using h.small⟩, (G.Chg.refl (· = p) w).put (p := ⟨p, n * 2 + 1, none⟩) (.inl rfl) _⟩
 ·have := h.head.other (p := ⟨p, n * 2 + 1, none⟩) h.apart (.int .i64 o')
  rw [List.length_set]; exact this
 have := h.parts.put (n * 2 + 1) (.int .i64 o')
 rw [← partCells_set2 l n e o o' hn]
 simpa using this
theorem TopicAt.chg {S : Nat → Prop} {w w' : World} {g p : Nat} {l : List (Int × Int)} (h : TopicAt w g p l) (hc : G.Chg S w w') (hg : ¬ S g) (hp : ¬ S p) : TopicAt w' g p l :=
 ⟨h.head.chg hc hg, h.parts.chg hc hp, h.small⟩
theorem topMake_none (g p : Nat) (l : List (Int × Int)) (n k : Int) (w : World) (ht : TopicAt w g p l) (h : n < 0 ∨ (l.length : Int) ≤ n) :
  Calls Tryz.prog 90 #[.pointer (some ⟨g, 0, none⟩), .int .i64 n, .int .i64 k] w fun e w' => e = .returned (.int .i64 4) ∧ w = w' := by
 have hc := ht.head.here (i := 0) rfl
 by_cases h0 : n < 0
 ·clear h
  go_enter Tryz.func90, Tryz.ntmps90
  go_wp2
  go_ret
  exact ⟨rfl, rfl⟩
 have h1 : (l.length : Int) ≤ n := by omega
 clear h
 go_enter Tryz.func90, Tryz.ntmps90
 go_wp2
 go_ret
 exact ⟨rfl, rfl⟩
theorem topMake_yes (g p : Nat) (l : List (Int × Int)) (n : Nat) (k e o : Int) (w : World) (ht : TopicAt w g p l) (hn : l[n]? = some (e, o)) (k0 : 1 ≤ k) (k1 : k ≤ 100000) :
  Calls Tryz.prog 90 #[.pointer (some ⟨g, 0, none⟩), .int .i64 n, .int .i64 k] w fun en w' => en = .returned (.int .i64 0) ∧ TopicAt w' g p (l.set n (G.addc e k, o)) ∧ G.Chg (· = p) w w' := by
 have hc := ht.head.here (i := 0) rfl
 have hlt : n < l.length := by
  rcases Nat.lt_or_ge n l.length with h | h
  ·exact h
  rw [List.getElem?_eq_none h] at hn; cases hn
 have hs := ht.small
 have hp : w.cell? ⟨p, n * 2, none⟩ = some (.int .i64 e) := ht.parts.here (by simpa using (partCells_get0 l n e o hn).1)
 have hf : w.frozen? ⟨p, n * 2, none⟩ = false := ht.parts.soft _
 have HT := J ht; have HN := J hn
 clear ht hn
 go_enter Tryz.func90, Tryz.ntmps90
 go_wp2_with fail
 go_region_with (go_at_call 131; refine (numAdd _ _ _).mono ?_; rintro e w' ⟨rfl, rfl⟩)
 all_goals
  go_wp2
  go_ret
  exact ⟨rfl, HT.u.put1 HN.u _⟩
theorem topMake_arg (g p : Nat) (l : List (Int × Int)) (n k : Int) (w : World) (ht : TopicAt w g p l) (n0 : 0 ≤ n) (n1 : n < (l.length : Int)) (h : k < 1 ∨ 100000 < k) :
  Calls Tryz.prog 90 #[.pointer (some ⟨g, 0, none⟩), .int .i64 n, .int .i64 k] w fun e w' => e = .returned (.int .i64 1) ∧ w = w' := by
 have hc := ht.head.here (i := 0) rfl
 by_cases h0 : k < 1
 ·clear h
  go_enter Tryz.func90, Tryz.ntmps90
  go_wp2
  go_ret
  exact ⟨rfl, rfl⟩
 have h1 : 100000 < k := by omega
 have h2 : 1 ≤ k := by omega
 clear h h0
 go_enter Tryz.func90, Tryz.ntmps90
 go_wp2
 go_ret
 exact ⟨rfl, rfl⟩
theorem topTake_none (g p : Nat) (l : List (Int × Int)) (n k : Int) (w : World) (ht : TopicAt w g p l) (h : n < 0 ∨ (l.length : Int) ≤ n) :
  Calls Tryz.prog 91 #[.pointer (some ⟨g, 0, none⟩), .int .i64 n, .int .i64 k] w fun e w' => e = .returned (.int .i64 4) ∧ w = w' := by
 have hc := ht.head.here (i := 0) rfl
 by_cases h0 : n < 0
 ·clear h
  go_enter Tryz.func91, Tryz.ntmps91
  go_wp2
  go_ret
  exact ⟨rfl, rfl⟩
 have h1 : (l.length : Int) ≤ n := by omega
 clear h
 go_enter Tryz.func91, Tryz.ntmps91
 go_wp2
 go_ret
 exact ⟨rfl, rfl⟩
theorem topTake_yes (g p : Nat) (l : List (Int × Int)) (n : Nat) (k e o : Int) (w : World) (ht : TopicAt w g p l) (hn : l[n]? = some (e, o)) (k0 : o ≤ k) (k1 : k ≤ e) :
  Calls Tryz.prog 91 #[.pointer (some ⟨g, 0, none⟩), .int .i64 n, .int .i64 k] w fun en w' => en = .returned (.int .i64 0) ∧ TopicAt w' g p (l.set n (e, k)) ∧ G.Chg (· = p) w w' := by
 have hc := ht.head.here (i := 0) rfl
 have hlt : n < l.length := by
  rcases Nat.lt_or_ge n l.length with h | h
  ·exact h
  rw [List.getElem?_eq_none h] at hn; cases hn
 have hs := ht.small
 have hp : w.cell? ⟨p, n * 2, none⟩ = some (.int .i64 e) := ht.parts.here (by simpa using (partCells_get0 l n e o hn).1)
 have hp' : w.cell? ⟨p, n * 2 + 1, none⟩ = some (.int .i64 o) := ht.parts.here (by simpa using (partCells_get0 l n e o hn).2)
 have hf : w.frozen? ⟨p, n * 2 + 1, none⟩ = false := ht.parts.soft _
 have HT := J ht; have HN := J hn
 clear ht hn
 go_enter Tryz.func91, Tryz.ntmps91
 go_wp2_with fail
 go_ret
 exact ⟨rfl, HT.u.put2 HN.u _⟩
theorem topTake_arg (g p : Nat) (l : List (Int × Int)) (n : Nat) (k e o : Int) (w : World) (ht : TopicAt w g p l) (hn : l[n]? = some (e, o)) (h : k < o ∨ e < k) :
  Calls Tryz.prog 91 #[.pointer (some ⟨g, 0, none⟩), .int .i64 n, .int .i64 k] w fun en w' => en = .returned (.int .i64 1) ∧ w = w' := by
 have hc := ht.head.here (i := 0) rfl
 have hlt : n < l.length := by
  rcases Nat.lt_or_ge n l.length with h | h
  ·exact h
  rw [List.getElem?_eq_none h] at hn; cases hn
 have hs := ht.small
 have hp : w.cell? ⟨p, n * 2, none⟩ = some (.int .i64 e) := ht.parts.here (by simpa using (partCells_get0 l n e o hn).1)
 have hp' : w.cell? ⟨p, n * 2 + 1, none⟩ = some (.int .i64 o) := ht.parts.here (by simpa using (partCells_get0 l n e o hn).2)
 clear ht hn
 by_cases h0 : k < o
 ·clear h
  go_enter Tryz.func91, Tryz.ntmps91
  go_wp2_with fail
  go_ret
  exact ⟨rfl, rfl⟩
 have h1 : e < k := by omega
 have h2 : o ≤ k := by omega
 clear h h0
 go_enter Tryz.func91, Tryz.ntmps91
 go_wp2_with fail
 go_ret
 exact ⟨rfl, rfl⟩
open Go.RowKit
theorem info_int : (Tryz.prog.info? 3).map (fun i => (i.zero, i.size, i.bytes)) = some (some (.int .i64 0), 1, 8) := by kernel_rfl
theorem info_part : (Tryz.prog.info? 234).map (fun i => (i.zero, i.size, i.bytes)) = some (some (.agg #[.int .i64 0, .int .i64 0]), 2, 16) := by kernel_rfl
def lagsOf (l : List (Int × Int)) : List Int := l.map fun p => p.1 - p.2
def OwnInts (B : Nat) (w : World) (v : Value) (xs : List Int) : Prop := w.ownsRow B 3 1 v xs.length (xs.map (Value.int .i64))
def LagsPost (w0 : World) (xs : List Int) (e : Ending) (w' : World) : Prop := ∃ v, e = .returned v ∧ OwnInts w0.heap.size w' v xs ∧ Below w0.heap.size w0 w'
def Small (l : List (Int × Int)) : Prop := ∀ p ∈ l, 0 ≤ p.2 ∧ p.2 ≤ p.1 ∧ p.1 ≤ 1000000000000000
theorem take_lags (l : List (Int × Int)) (k : Nat) (e o : Int) (h : l[k]? = some (e, o)) : lagsOf (l.take (k + 1)) = lagsOf (l.take k) ++ [e - o] := by
 unfold lagsOf
 rw [List.take_add_one, h]
 simp
theorem below_app {w wr w1 : World} {o o' : Obj} {v : Value} {xs : List Int} (hb : Below w.heap.size w wr) (ho : OwnInts w.heap.size wr v xs) (hg : ((wr.alloc o).alloc o').grownBy w1 v.ownBlock) : Below w.heap.size w w1 :=
 (((hb.alloc hb.size _).alloc (by have := hb.size; simp; omega) _)).grown hg (by have := hb.size; simp; omega) (G.own_ge ho)
theorem own_lags {l : List (Int × Int)} {k : Nat} {e o : Int} {B : Nat} {w : World} {v : Value} (h : l[k]? = some (e, o))
  (ho : w.ownsRow B 3 1 v ((lagsOf (l.take k)).length + 1) ((lagsOf (l.take k)).map (Value.int .i64) ++ [.int .i64 (e - o)])) : OwnInts B w v (lagsOf (l.take (k + 1))) := by
 rw [take_lags l k e o h]
 unfold OwnInts
 simpa using ho
theorem topLags (g p : Nat) (l : List (Int × Int)) (w : World) (ht : TopicAt w g p l) (hsm : Small l) :
  Calls Tryz.prog 178 #[.pointer (some ⟨g, 0, none⟩)] w (LagsPost w (lagsOf l)) := by
 have hc := ht.head.here (i := 0) rfl
 have hs := ht.small
 have hpl := ht.parts.inside
 have HT := J ht; have HS := J hsm
 obtain ⟨i0, hi, hz0, hz1, hz2⟩ := info_parts info_int
 clear ht hsm
 go_enter Tryz.func178, Tryz.ntmps178
 go_wp2_with fail
 go_loopw [3, 11] (fun v i wr => ∃ k : Nat, k ≤ l.length ∧ i = .int .i64 k ∧ Hid (OwnInts w.heap.size wr v (lagsOf (l.take k))) ∧ Below w.heap.size w wr) (fun _ i _ => l.length - (intOf i).toNat)
 case atStart => exact ⟨0, by omega, rfl, ⟨by simp [lagsOf], .inl ⟨rfl, by simp [lagsOf]⟩⟩, Below.refl _ _⟩
 obtain ⟨k, hk, rfl, hown, hbw⟩ := hrel
 by_cases hlt : k < l.length
 ·obtain ⟨⟨e, o⟩, hn⟩ : ∃ q, l[k]? = some q := ⟨_, List.getElem?_eq_getElem hlt⟩
  have hmem : (e, o) ∈ l := List.mem_of_getElem? hn
  obtain ⟨o0, o1, e1⟩ := HS.u _ hmem
  simp only at o0 o1 e1
  have hp : wr.cell? ⟨p, k * 2, none⟩ = some (.int .i64 e) := (hbw.cell (p := ⟨p, k * 2, none⟩) hpl).trans (HT.u.parts.here (by simpa using (partCells_get0 l k e o hn).1))
  have hp' : wr.cell? ⟨p, k * 2 + 1, none⟩ = some (.int .i64 o) := (hbw.cell (p := ⟨p, k * 2 + 1, none⟩) hpl).trans (HT.u.parts.here (by simpa using (partCells_get0 l k e o hn).2))
  have HN := J hn
  clear hn hmem
  have hlen : Hid ((lagsOf (l.take k)).length = k) := by show _ = _; unfold lagsOf; simp; omega
  go_wp2_with (at_builtin; refine wpList_append_own _ rfl (.tmp 15) (.tmp 21) 82 rfl w.heap.size 3 i0 (.int .i64 0) 1 8 Tryz.underlying82 hi hz0 hz1 hz2 rfl (by decide) _ _ _ rfl ((hown.u.alloc _).alloc _) ⟨wr.heap.size + 1, 0, none⟩ 1 1 [.int .i64 (e - o)] rfl rfl ?c1 ?c2 ?c3 ?c4 ?c5 ?_)
  case c1 => exact G.new_one (by simp)
  case c2 => simp [Value.oneCell']
  case c3 => rw [hlen.u]; simp only [maxLen]; omega
  case c4 => rw [hlen.u]; omega
  case c5 => have := hbw.size; simp; omega
  intro v' w1 hown1 hg1 _
  have hb1 := below_app hbw hown.u hg1
  have ho1 := own_lags HN.u hown1
  clear hown1 hg1 hown hbw hlen hp hp' HN
  go_wp2_with fail
  go_roundw
  case rel => exact ⟨k + 1, by omega, by go_num, ho1, hb1⟩
  case measure => simp [intOf]; omega
 go_wp2_with fail
 go_ret
 exact ⟨_, rfl, by have := hown.u; rw [List.take_of_length_le (by omega)] at this; exact this, hbw⟩
def NewPost (w0 : World) (n : Nat) (e : Ending) (w' : World) : Prop := ∃ g p : Nat, e = .returned (.tuple #[.pointer (some ⟨g, 0, none⟩), .int .i64 0]) ∧ TopicAt w' g p (List.replicate n (0, 0)) ∧ w0.heap.size ≤ g ∧ w0.heap.size ≤ p ∧ Below w0.heap.size w0 w'
theorem partCells_zero : ∀ n : Nat, partCells (List.replicate n (0, 0)) = List.replicate (n * 2) (.int .i64 0)
 | 0 => rfl
 | n + 1 => by
  rw [List.replicate_succ, show (n + 1) * 2 = n * 2 + 1 + 1 by omega, List.replicate_succ, List.replicate_succ, ← partCells_zero n]
  rfl
theorem madeCells_two (n : Nat) : madeCells #[.int .i64 0, .int .i64 0] (n * 2) = (List.replicate (n * 2) (Value.int .i64 0)).toArray := by
 unfold madeCells
 apply Array.ext
 ·simp
 intro i h1 h2
 have hm : i % 2 = 0 ∨ i % 2 = 1 := by omega
 simp
 rcases hm with hm | hm <;> rw [hm] <;> rfl
theorem topNew (n : Nat) (h0 : 1 ≤ n) (h1 : n ≤ 20) (w : World) :
  Calls Tryz.prog 79 #[.int .i64 n] w (NewPost w n) := by
 have hmk : ∀ W : World, (Instr.makeSlice 220 (.int .i64 (n : Int)) (.int .i64 (n : Int))).run Tryz.prog W = .ok (.slice (some ⟨W.heap.size, 0, none⟩) n n) (W.alloc (.cells (partCells (List.replicate n (0, 0))).toArray 234)) := fun W => by
  obtain ⟨i0, hi, hz0, hz1, hz2⟩ := info_parts info_part
  have := run_make (P := Tryz.prog) W 220 234 i0 _ Tryz.underlying220 hi hz0 .i64 .i64 n n (by omega) (by omega) (by rw [hz2]; omega) (by omega)
  rw [Int.toNat_natCast, hz1] at this
  rw [this, partCells_zero, ← madeCells_two]
  rfl
 have k0 : (1 : Int) ≤ n := by omega
 have k1 : (n : Int) ≤ 20 := by omega
 obtain ⟨C, hC⟩ : ∃ C, (partCells (List.replicate n (0, 0))).toArray = C := ⟨_, rfl⟩
 rw [hC] at hmk
 have HC := J hC
 clear hC
 go_enter Tryz.func79, Tryz.ntmps79
 go_wp2_with fail
 go_ret2
 have hp : G.At ((w.alloc (.cells C 234)).alloc (.cells #[.slice (some ⟨w.heap.size, 0, none⟩) n n] 222)) w.heap.size 234 C := (G.At.made w _ C).alloc _
 have hg : G.At ((w.alloc (.cells C 234)).alloc (.cells #[.slice (some ⟨w.heap.size, 0, none⟩) n n] 222)) (w.heap.size + 1) 222 #[.slice (some ⟨w.heap.size, 0, none⟩) n n] := by
  have := G.At.made (w.alloc (.cells C 234)) 222 #[.slice (some ⟨w.heap.size, 0, none⟩) n n]
  rw [World.size_alloc] at this
  exact this
 exact ⟨w.heap.size + 1, w.heap.size, rfl, ⟨by rw [List.length_replicate]; exact hg, by rw [HC.u]; exact hp, by simpa using h1⟩, by omega, by omega, ((Below.refl _ _).alloc (Nat.le_refl _) _).alloc (by simp) _⟩
theorem topNew_no (n : Int) (h : n < 1 ∨ 20 < n) (w : World) :
  Calls Tryz.prog 79 #[.int .i64 n] w fun e w' => e = .returned (.tuple #[.pointer none, .int .i64 1]) ∧ w = w' := by
 by_cases h0 : n < 1
 ·clear h
  go_enter Tryz.func79, Tryz.ntmps79
  go_wp2
  go_ret2
  exact ⟨rfl, rfl⟩
 have h1 : 20 < n := by omega
 have h2 : 1 ≤ n := by omega
 clear h h0
 go_enter Tryz.func79, Tryz.ntmps79
 go_wp2
 go_ret2
 exact ⟨rfl, rfl⟩
open Go.RowKit
/-! what Make and Take do to the list -/
def entry (l : List (Int × Int)) (i : Int) : Option (Int × Int) := if 0 ≤ i then l[i.toNat]? else none
def makeErr (l : List (Int × Int)) (i n : Int) : Int := if (entry l i).isNone then 4 else if n < 1 ∨ 100000 < n then 1 else 0
def makeLst (l : List (Int × Int)) (i n : Int) : List (Int × Int) := if n < 1 ∨ 100000 < n then l else match entry l i with | none => l | some (e, o) => l.set i.toNat (G.clip (e + n), o)
def takeErr (l : List (Int × Int)) (i n : Int) : Int := match entry l i with | none => 4 | some (e, o) => if n < o ∨ e < n then 1 else 0
def takeLst (l : List (Int × Int)) (i n : Int) : List (Int × Int) := match entry l i with | none => l | some (e, o) => if n < o ∨ e < n then l else l.set i.toNat (e, n)
theorem makeLst_length (l : List (Int × Int)) (i n : Int) : (makeLst l i n).length = l.length := by unfold makeLst; split; rfl; split <;> simp
theorem takeLst_length (l : List (Int × Int)) (i n : Int) : (takeLst l i n).length = l.length := by unfold takeLst; split; rfl; split <;> simp
theorem entry_some {l : List (Int × Int)} {i : Int} {e o : Int} (h : entry l i = some (e, o)) : 0 ≤ i ∧ l[i.toNat]? = some (e, o) := by
 unfold entry at h; split at h
 ·exact ⟨by assumption, h⟩
 cases h
theorem entry_none {l : List (Int × Int)} {i : Int} (h : entry l i = none) : i < 0 ∨ (l.length : Int) ≤ i := by
 unfold entry at h; split at h
 ·rename_i h0
  have : l.length ≤ i.toNat := by simpa using h
  omega
 omega
theorem Small.makes {l : List (Int × Int)} (h : Small l) (i n : Int) : Small (makeLst l i n) := by
 unfold makeLst; split
 ·exact h
 split
 ·exact h
 rename_i hn _ e o he
 obtain ⟨h0, hx⟩ := entry_some he
 have hm := h _ (List.mem_of_getElem? hx)
 simp only at hm
 intro q hq
 rcases List.mem_or_eq_of_mem_set hq with h1 | rfl
 ·exact h q h1
 have := G.clip_spec (e + n)
 simp only
 omega
theorem Small.takes {l : List (Int × Int)} (h : Small l) (i n : Int) : Small (takeLst l i n) := by
 unfold takeLst; split
 ·exact h
 rename_i e o he
 split
 ·exact h
 obtain ⟨h0, hx⟩ := entry_some he
 have hm := h _ (List.mem_of_getElem? hx)
 simp only at hm
 intro q hq
 rcases List.mem_or_eq_of_mem_set hq with h1 | rfl
 ·exact h q h1
 simp only; omega
theorem addc_eq {e n : Int} (h0 : 0 ≤ e) (h1 : e ≤ 1000000000000000) (h2 : 1 ≤ n) (h3 : n ≤ 100000) : G.addc e n = G.clip (e + n) := by
 unfold G.addc; rw [G.clip_id (by omega) h1, G.clip_id (n := n) (by omega) (by omega)]
theorem topMake_any (g p : Nat) (l : List (Int × Int)) (i n : Int) (w : World) (ht : TopicAt w g p l) (hs : Small l) :
  Calls Tryz.prog 90 #[.pointer (some ⟨g, 0, none⟩), .int .i64 i, .int .i64 n] w fun en w' => en = .returned (.int .i64 (makeErr l i n)) ∧ TopicAt w' g p (makeLst l i n) ∧ G.Chg (· = p) w w' := by
 cases he : entry l i with
 | none =>
  have e1 : makeErr l i n = 4 := by unfold makeErr; rw [he]; rfl
  have e2 : makeLst l i n = l := by unfold makeLst; rw [he]; split <;> rfl
  rw [e1, e2]
  exact (topMake_none g p l i n w ht (entry_none he)).mono fun _ _ ⟨a, b⟩ => ⟨a, b ▸ ht, b ▸ G.Chg.refl _ _⟩
 | some q =>
  obtain ⟨e, o⟩ := q
  obtain ⟨h0, hx⟩ := entry_some he
  have hlt : i.toNat < l.length := by
   rcases Nat.lt_or_ge i.toNat l.length with h | h
   ·exact h
   rw [List.getElem?_eq_none h] at hx; cases hx
  by_cases hn : n < 1 ∨ 100000 < n
  ·have e1 : makeErr l i n = 1 := by unfold makeErr; rw [he]; simp [hn]
   have e2 : makeLst l i n = l := by unfold makeLst; rw [if_pos hn]
   rw [e1, e2]
   exact (topMake_arg g p l i n w ht h0 (by omega) hn).mono fun _ _ ⟨a, b⟩ => ⟨a, b ▸ ht, b ▸ G.Chg.refl _ _⟩
  have e1 : makeErr l i n = 0 := by unfold makeErr; rw [he]; simp [hn]
  have hm := hs _ (List.mem_of_getElem? hx)
  simp only at hm
  have e2 : makeLst l i n = l.set i.toNat (G.addc e n, o) := by unfold makeLst; rw [if_neg hn, he, addc_eq (by omega) (by omega) (by omega) (by omega)]
  rw [e1, e2]
  have := topMake_yes g p l i.toNat n e o w ht hx (by omega) (by omega)
  rw [Int.toNat_of_nonneg h0] at this
  exact this
theorem topTake_any (g p : Nat) (l : List (Int × Int)) (i n : Int) (w : World) (ht : TopicAt w g p l) :
  Calls Tryz.prog 91 #[.pointer (some ⟨g, 0, none⟩), .int .i64 i, .int .i64 n] w fun en w' => en = .returned (.int .i64 (takeErr l i n)) ∧ TopicAt w' g p (takeLst l i n) ∧ G.Chg (· = p) w w' := by
 cases he : entry l i with
 | none =>
  have e1 : takeErr l i n = 4 := by unfold takeErr; rw [he]
  have e2 : takeLst l i n = l := by unfold takeLst; rw [he]
  rw [e1, e2]
  exact (topTake_none g p l i n w ht (entry_none he)).mono fun _ _ ⟨a, b⟩ => ⟨a, b ▸ ht, b ▸ G.Chg.refl _ _⟩
 | some x =>
  obtain ⟨e, o⟩ := x
  obtain ⟨h0, hx⟩ := entry_some he
  by_cases hn : n < o ∨ e < n
  ·have e1 : takeErr l i n = 1 := by unfold takeErr; rw [he]; simp [hn]
   have e2 : takeLst l i n = l := by unfold takeLst; rw [he]; simp [hn]
   rw [e1, e2]
   have := topTake_arg g p l i.toNat n e o w ht hx hn
   rw [Int.toNat_of_nonneg h0] at this
   exact this.mono fun _ _ ⟨a, b⟩ => ⟨a, b ▸ ht, b ▸ G.Chg.refl _ _⟩
  have e1 : takeErr l i n = 0 := by unfold takeErr; rw [he]; simp [hn]
  have e2 : takeLst l i n = l.set i.toNat (e, n) := by unfold takeLst; rw [he]; simp [hn]
  rw [e1, e2]
  have := topTake_yes g p l i.toNat n e o w ht hx (by omega) (by omega)
  rw [Int.toNat_of_nonneg h0] at this
  exact this
end Go.Proofs.YtoidcbpcnikejaaGreatDoor
