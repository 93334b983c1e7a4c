/- Of the texts NumC, CivM, CivC, CivD, StbM, Frame, BldP, NeedM, TopC, TopD: what this claim reaches. -/
import Derived.WalkKit
import Derived.WalkSpells
import Derived.WalkLawsBesides
import Derived.Lib.Hide
import Derived.Handy
import Derived.ProofKit
import Derived.OpenShut
import Derived.Great.BuildSlice
import Derived.StillTailTactics
import Derived.Deep.QuietTactic
import Derived.BigQuiet
import Derived.Deep.RegionHeld3
import Derived.Laws.MakeOwn
import Derived.Test.YtidonhndeohdlaaGreatDoorRows
import Derived.Test.YtidonhndeohdlaaGreatDoorTt00
set_option linter.unusedVariables false
set_option linter.unusedSimpArgs false
namespace Go.Proofs.YtidonhndeohdlaaGreatDoor
open Go.RowKit
set_option maxHeartbeats 400000 in
theorem numClip (n : Int) (w : World) : Calls Tryz.prog 99 #[.int .i64 n] w fun e w' => e = .returned (.int .i64 (Tide.clip n)) ∧ w = w' := by
  have k := Tide.clip_spec n
  by_cases h1 : n < -1000000000000000
  · go_enter Tryz.func99, Tryz.ntmps99
    go_wp2
    go_ret
    exact ⟨ret_int (by omega), rfl⟩
  · by_cases h2 : 1000000000000000 < n
    · go_enter Tryz.func99, Tryz.ntmps99
      go_wp2
      go_ret
      exact ⟨ret_int (by omega), rfl⟩
    · go_enter Tryz.func99, Tryz.ntmps99
      go_wp2
      go_ret
      exact ⟨ret_int (by omega), rfl⟩
set_option maxHeartbeats 400000 in
theorem numAdd (a b : Int) (w : World) : Calls Tryz.prog 65 #[.int .i64 a, .int .i64 b] w fun e w' => e = .returned (.int .i64 (Tide.addc a b)) ∧ w = w' := by
  have a0 := Tide.clip_lo a; have a1 := Tide.clip_hi a; have b0 := Tide.clip_lo b; have b1 := Tide.clip_hi b
  go_enter Tryz.func65, Tryz.ntmps65
  go_wp2_with (go_at_call 99; refine (numClip _ _).mono ?_; rintro e w' ⟨rfl, rfl⟩)
  go_ret
  exact ⟨rfl, rfl⟩
set_option maxHeartbeats 400000 in
theorem numSub (a b : Int) (w : World) : Calls Tryz.prog 162 #[.int .i64 a, .int .i64 b] w fun e w' => e = .returned (.int .i64 (Tide.subc a b)) ∧ w = w' := by
  have a0 := Tide.clip_lo a; have a1 := Tide.clip_hi a; have b0 := Tide.clip_lo b; have b1 := Tide.clip_hi b
  go_enter Tryz.func162, Tryz.ntmps162
  go_wp2_with (go_at_call 99; refine (numClip _ _).mono ?_; rintro e w' ⟨rfl, rfl⟩)
  go_ret
  exact ⟨rfl, rfl⟩
theorem wrap_small {n : Int} (h0 : -1000000000000000 ≤ n) (h1 : n ≤ 1000000000000000) : wrap64 n = n := IntWalk.wrap64_in n (by omega)
theorem quo_neg {B : Int} (h : B < 0) : wrap64 (-Int.tdiv 1000000000000000 B) = 1000000000000000 / -B := by
  rw [← Int.tdiv_neg, Int.tdiv_eq_ediv_of_nonneg (by omega)]
  exact wrap_small (by have := Int.ediv_nonneg (a := 1000000000000000) (b := -B) (by omega) (by omega); omega) (Int.ediv_le_self _ (by omega))
theorem mul_close_in {a b x y : Int} (hx : x = max a (-a)) (hy : y = max b (-b)) (hb : b ≠ 0) (h : x ≤ 1000000000000000 / y) : wrap64 (a * b) = Tide.clip (a * b) := by
  have e := Tide.mul_in hx hy hb h
  have h0 := Tide.clip_lo (a * b); have h1 := Tide.clip_hi (a * b)
  rw [e] at h0 h1 ⊢
  exact wrap_small h0 h1
set_option maxHeartbeats 1600000 in
theorem numMul (a b : Int) (w : World) : Calls Tryz.prog 161 #[.int .i64 a, .int .i64 b] w fun e w' => e = .returned (.int .i64 (Tide.mulc a b)) ∧ w = w' := by
  have a0 := Tide.clip_lo a; have a1 := Tide.clip_hi a; have b0 := Tide.clip_lo b; have b1 := Tide.clip_hi b
  by_cases hA : Tide.clip a = 0
  · have hz : Hid (Tide.mulc a b = 0) := Tide.mulc_zero_left hA
    go_enter Tryz.func161, Tryz.ntmps161
    go_wp2_with (go_at_call 99; refine (numClip _ _).mono ?_; rintro e w' ⟨rfl, rfl⟩)
    all_goals
      go_ret
      exact ⟨ret_int hz.out.symm, rfl⟩
  · have hA' : (Tide.clip a == 0) = false := by simp [hA]
    by_cases hB : Tide.clip b = 0
    · have hz : Hid (Tide.mulc a b = 0) := Tide.mulc_zero_right hB
      clear hA
      go_enter Tryz.func161, Tryz.ntmps161
      go_wp2_with (go_at_call 99; refine (numClip _ _).mono ?_; rintro e w' ⟨rfl, rfl⟩)
      all_goals
        go_ret
        exact ⟨ret_int hz.out.symm, rfl⟩
    · have hB' : (Tide.clip b == 0) = false := by simp [hB]
      have hmul : Hid (Tide.mulc a b = Tide.clip (Tide.clip a * Tide.clip b)) := rfl
      rcases Int.lt_or_lt_of_ne hA with ha | ha <;> rcases Int.lt_or_lt_of_ne hB with hb | hb
      · have ki := fun h => @mul_close_in (Tide.clip a) (Tide.clip b) (-Tide.clip a) (-Tide.clip b) (by omega) (by omega) hB h
        have ko := fun h => @Tide.mul_out (Tide.clip a) (Tide.clip b) (-Tide.clip a) (-Tide.clip b) (by omega) (by omega) hB h
        have KI := Lib.hid ki; have KO := Lib.hid ko; have hq := Lib.hid (quo_neg hb)
        clear hA hB ki ko
        go_enter Tryz.func161, Tryz.ntmps161
        go_wp2_with (go_at_call 99; refine (numClip _ _).mono ?_; rintro e w' ⟨rfl, rfl⟩)
        all_goals
          go_ret
          refine ⟨ret_int ?_, rfl⟩
          rw [hmul.out]
          first
            | exact KI.out (by rw [← hq.out]; assumption)
            | (rw [KO.out (by rw [← hq.out]; omega)]; simp_all; done)
            | (rw [KO.out (by rw [← hq.out]; omega)]; rw [if_pos (by simp; omega)])
            | (rw [KO.out (by rw [← hq.out]; omega)]; rw [if_neg (by simp; omega)])
      · have ki := fun h => @mul_close_in (Tide.clip a) (Tide.clip b) (-Tide.clip a) (Tide.clip b) (by omega) (by omega) hB h
        have ko := fun h => @Tide.mul_out (Tide.clip a) (Tide.clip b) (-Tide.clip a) (Tide.clip b) (by omega) (by omega) hB h
        have KI := Lib.hid ki; have KO := Lib.hid ko; skip
        clear hA hB ki ko
        go_enter Tryz.func161, Tryz.ntmps161
        go_wp2_with (go_at_call 99; refine (numClip _ _).mono ?_; rintro e w' ⟨rfl, rfl⟩)
        all_goals
          go_ret
          refine ⟨ret_int ?_, rfl⟩
          rw [hmul.out]
          first
            | exact KI.out (by skip; assumption)
            | (rw [KO.out (by skip; omega)]; simp_all; done)
            | (rw [KO.out (by skip; omega)]; rw [if_pos (by simp; omega)])
            | (rw [KO.out (by skip; omega)]; rw [if_neg (by simp; omega)])
      · have ki := fun h => @mul_close_in (Tide.clip a) (Tide.clip b) (Tide.clip a) (-Tide.clip b) (by omega) (by omega) hB h
        have ko := fun h => @Tide.mul_out (Tide.clip a) (Tide.clip b) (Tide.clip a) (-Tide.clip b) (by omega) (by omega) hB h
        have KI := Lib.hid ki; have KO := Lib.hid ko; have hq := Lib.hid (quo_neg hb)
        clear hA hB ki ko
        go_enter Tryz.func161, Tryz.ntmps161
        go_wp2_with (go_at_call 99; refine (numClip _ _).mono ?_; rintro e w' ⟨rfl, rfl⟩)
        all_goals
          go_ret
          refine ⟨ret_int ?_, rfl⟩
          rw [hmul.out]
          first
            | exact KI.out (by rw [← hq.out]; assumption)
            | (rw [KO.out (by rw [← hq.out]; omega)]; simp_all; done)
            | (rw [KO.out (by rw [← hq.out]; omega)]; rw [if_pos (by simp; omega)])
            | (rw [KO.out (by rw [← hq.out]; omega)]; rw [if_neg (by simp; omega)])
      · have ki := fun h => @mul_close_in (Tide.clip a) (Tide.clip b) (Tide.clip a) (Tide.clip b) (by omega) (by omega) hB h
        have ko := fun h => @Tide.mul_out (Tide.clip a) (Tide.clip b) (Tide.clip a) (Tide.clip b) (by omega) (by omega) hB h
        have KI := Lib.hid ki; have KO := Lib.hid ko; skip
        clear hA hB ki ko
        go_enter Tryz.func161, Tryz.ntmps161
        go_wp2_with (go_at_call 99; refine (numClip _ _).mono ?_; rintro e w' ⟨rfl, rfl⟩)
        all_goals
          go_ret
          refine ⟨ret_int ?_, rfl⟩
          rw [hmul.out]
          first
            | exact KI.out (by skip; assumption)
            | (rw [KO.out (by skip; omega)]; simp_all; done)
            | (rw [KO.out (by skip; omega)]; rw [if_pos (by simp; omega)])
            | (rw [KO.out (by skip; omega)]; rw [if_neg (by simp; omega)])
theorem tdiv_floor (a b : Int) (hb : 0 < b) : (if a.tmod b < 0 then a.tdiv b - 1 else a.tdiv b) = a / b := by
  rw [Int.tdiv_eq_ediv, Int.tmod_eq_emod]
  have h1 := Int.emod_nonneg a (show b ≠ 0 by omega)
  have h2 := Int.emod_lt_of_pos a hb
  by_cases h : 0 ≤ a ∨ b ∣ a
  · rw [if_pos h, if_pos h, if_neg (by omega)]; omega
  · rw [if_neg h, if_neg h, if_pos (by omega), Int.sign_eq_one_of_pos hb]; omega
theorem tdiv_bd (a b : Int) (hb : 0 < b) (h0 : -4000000000000000000 ≤ a) (h1 : a ≤ 4000000000000000000) : -4000000000000000000 ≤ a.tdiv b ∧ a.tdiv b ≤ 4000000000000000000 := by
  rw [tdiv_eq_if]
  split
  · have := IntWalk.tdiv_le a b (by omega) (by omega); omega
  · have := IntWalk.tdiv_le (-a) b (by omega) (by omega); omega
set_option maxHeartbeats 400000 in
theorem numFloor (a b : Int) (w : World) (hb : 1 ≤ b) (h0 : -4000000000000000000 ≤ a) (h1 : a ≤ 4000000000000000000) : Calls Tryz.prog 170 #[.int .i64 a, .int .i64 b] w fun e w' => e = .returned (.int .i64 (a / b)) ∧ w = w' := by
  have h := Lib.hid (tdiv_floor a b (by omega))
  have hd := tdiv_bd a b (by omega) h0 h1
  obtain ⟨d0, d1⟩ := hd
  by_cases hm : a.tmod b < 0
  · go_enter Tryz.func170, Tryz.ntmps170
    go_wp2
    go_ret
    exact ⟨ret_int (by have := h.out; rw [if_pos hm] at this; exact this), rfl⟩
  · go_enter Tryz.func170, Tryz.ntmps170
    go_wp2
    go_ret
    exact ⟨ret_int (by have := h.out; rw [if_neg (by omega)] at this; exact this), rfl⟩
set_option maxHeartbeats 400000 in
theorem numCeil_yes (a b : Int) (w : World) (h : 1 ≤ b) : Calls Tryz.prog 160 #[.int .i64 a, .int .i64 b] w fun e w' => e = .returned (.tuple #[.int .i64 (Tide.ceilc a b), .int .i64 0]) ∧ w = w' := by
  have a0 := Tide.clip_lo a; have a1 := Tide.clip_hi a; have b0 := Tide.clip_one h; have b1 := Tide.clip_hi b
  have c0 := Tide.ceil_lo a h; have c1 := Tide.ceil_hi a h
  unfold Tide.ceilc at c0 c1
  go_enter Tryz.func160, Tryz.ntmps160
  go_wp2_with (first | (go_at_call 99; refine (numClip _ _).mono ?_; rintro e w' ⟨rfl, rfl⟩) | (go_at_call 170; refine (numFloor _ _ _ (by omega) (by omega) (by omega)).mono ?_; rintro e w' ⟨rfl, rfl⟩))
  go_ret2
  exact ⟨rfl, rfl⟩
set_option maxHeartbeats 800000 in
theorem numShare (a m : Int) (w : World) : Calls Tryz.prog 163 #[.int .i64 a, .int .i64 m] w fun e w' => e = .returned (.int .i64 (Tide.sharec a m)) ∧ w = w' := by
  obtain ⟨x, hx⟩ : ∃ x, (if a < 0 then 0 else a) = x := ⟨_, rfl⟩
  obtain ⟨y, hy⟩ : ∃ y, (if m < 0 then 0 else m) = y := ⟨_, rfl⟩
  have ex : Tide.pos a = Tide.clip x := by unfold Tide.pos; congr 1; omega
  have ey : Tide.pos m = Tide.clip y := by unfold Tide.pos; congr 1; omega
  have x0 : 0 ≤ Tide.clip x := Tide.clip_nonneg (by omega)
  have y0 : 0 ≤ Tide.clip y := Tide.clip_nonneg (by omega)
  have x1 := Tide.clip_hi x; have y1 := Tide.clip_hi y
  have hs : Hid (Tide.sharec a m = Tide.addc (Tide.addc (Tide.mulc (Tide.clip x / 1000) (Tide.clip y)) (Tide.mulc (Tide.clip x % 1000) (Tide.clip y / 1000))) (Tide.clip x % 1000 * (Tide.clip y % 1000) / 1000)) := by
    unfold Tide.sharec Hid
    rw [ex, ey, ← Tide.share_eq _ _ x0 y0 x1 y1]
    unfold Tide.addc
    rw [Tide.clip_clip]
    have e1 : Tide.clip (Tide.clip x % 1000 * (Tide.clip y % 1000) / 1000) = Tide.clip x % 1000 * (Tide.clip y % 1000) / 1000 := by
      have h0 : 0 ≤ Tide.clip x % 1000 * (Tide.clip y % 1000) := Int.mul_nonneg (by omega) (by omega)
      have h1 : Tide.clip x % 1000 * (Tide.clip y % 1000) ≤ 1000 * 1000 := Int.mul_le_mul (by omega) (by omega) (by omega) (by omega)
      exact Tide.clip_id (by omega) (by omega)
    rw [e1]
    unfold Tide.mulc
    simp only [Tide.clip_clip]
  have h0 : 0 ≤ Tide.clip x % 1000 * (Tide.clip y % 1000) := Int.mul_nonneg (by omega) (by omega)
  have h1 : Tide.clip x % 1000 * (Tide.clip y % 1000) ≤ 1000 * 1000 := Int.mul_le_mul (by omega) (by omega) (by omega) (by omega)
  clear ex ey
  go_enter Tryz.func163, Tryz.ntmps163
  go_wp2_with (first | (go_at_call 99; refine (numClip _ _).mono ?_; rintro e w' ⟨rfl, rfl⟩) | (go_at_call 161; refine (numMul _ _ _).mono ?_; rintro e w' ⟨rfl, rfl⟩) | (go_at_call 65; refine (numAdd _ _ _).mono ?_; rintro e w' ⟨rfl, rfl⟩))
  go_ret
  exact ⟨ret_int hs.out.symm, rfl⟩
end Go.Proofs.YtidonhndeohdlaaGreatDoor
namespace Tide
def years (y : Int) : Int := 365 * y + (y + 3) / 4 - (y + 99) / 100 + (y + 399) / 400
def leap (y : Int) : Prop := y % 400 = 0 ∨ (y % 4 = 0 ∧ y % 100 ≠ 0)
instance (y : Int) : Decidable (leap y) := by unfold leap; infer_instance
def long (y m : Int) : Int := if m = 2 then (if leap y then 29 else 28) else if m = 4 ∨ m = 6 ∨ m = 9 ∨ m = 11 then 30 else 31
def cum (y m : Int) : Int := (367 * m - 362) / 12 + (if m ≤ 2 then 0 else if leap y then -1 else -2)
def dayno (y m d : Int) : Int := years y - years 1970 + d - 1 + cum y m
def valid (y m d : Int) : Prop := 1 ≤ m ∧ m ≤ 12 ∧ 1 ≤ d ∧ d ≤ long y m
theorem twelve {m : Int} (h1 : 1 ≤ m) (h2 : m ≤ 12) : m = 1 ∨ m = 2 ∨ m = 3 ∨ m = 4 ∨ m = 5 ∨ m = 6 ∨ m = 7 ∨ m = 8 ∨ m = 9 ∨ m = 10 ∨ m = 11 ∨ m = 12 := by omega
theorem leap_iff (y : Int) : leap y ↔ years (y + 1) = years y + 366 := by unfold leap years; omega
theorem not_leap_iff (y : Int) : ¬ leap y ↔ years (y + 1) = years y + 365 := by unfold leap years; omega
theorem years_succ (y : Int) : years (y + 1) = years y + 365 + (if leap y then 1 else 0) := by
  split <;> rename_i h
  · have := (leap_iff y).1 h; omega
  · have := (not_leap_iff y).1 h; omega
theorem years_1970 : years 1970 = 719528 := by decide
theorem cum_bd (y m : Int) (h1 : 1 ≤ m) (h2 : m ≤ 12) : 0 ≤ cum y m ∧ cum y m + long y m ≤ 365 + (if leap y then 1 else 0) := by
  unfold cum long
  by_cases hl : leap y <;> rcases twelve h1 h2 with rfl | rfl | rfl | rfl | rfl | rfl | rfl | rfl | rfl | rfl | rfl | rfl <;> simp [hl]
theorem years_mono {a b : Int} (h : a ≤ b) : years a ≤ years b := by unfold years; omega
theorem years_le {a b : Int} (h : a < b) : years a + 365 + (if leap a then 1 else 0) ≤ years b := by
  have h1 := years_succ a; have h2 := years_mono (show a + 1 ≤ b by omega); omega
/-! the date, by eras of 400 years -/
def eo (n : Int) : Int := (n + 719468) % 146097
def ye (n : Int) : Int := (eo n - eo n / 1460 + eo n / 36524 - eo n / 146096) / 365
def dd (n : Int) : Int := eo n - (365 * ye n + ye n / 4 - ye n / 100)
def mp (n : Int) : Int := (5 * dd n + 2) / 153
def dyOf (n : Int) : Int := dd n - (153 * mp n + 2) / 5 + 1
def yr0 (n : Int) : Int := ye n + (n + 719468) / 146097 * 400
def yrOf (n : Int) : Int := if 12 < mp n + 3 then yr0 n + 1 else yr0 n
def moOf (n : Int) : Int := if 12 < mp n + 3 then mp n - 9 else mp n + 3
theorem core2 (c r q2 v s : Nat) (hc : c ≤ 3) (hr : r < 36524) (hq : q2 = (24 * c + r) / 1460) (hs : s < 365) (e : 365 * v + s + q2 = r) :
    v ≤ 99 ∧ 365 * v + v / 4 ≤ r ∧ r - (365 * v + v / 4) ≤ 365 ∧ (r - (365 * v + v / 4) = 365 → v % 4 = 3 ∧ (v = 99 → c = 3)) := by
  obtain rfl | rfl | rfl | rfl : c = 0 ∨ c = 1 ∨ c = 2 ∨ c = 3 := by omega
  all_goals omega
theorem era_core (o : Nat) (h : o < 146097) :
    (o - o / 1460 + o / 36524 - o / 146096) / 365 ≤ 399 ∧
    365 * ((o - o / 1460 + o / 36524 - o / 146096) / 365) + (o - o / 1460 + o / 36524 - o / 146096) / 365 / 4 - (o - o / 1460 + o / 36524 - o / 146096) / 365 / 100 ≤ o ∧
    o - (365 * ((o - o / 1460 + o / 36524 - o / 146096) / 365) + (o - o / 1460 + o / 36524 - o / 146096) / 365 / 4 - (o - o / 1460 + o / 36524 - o / 146096) / 365 / 100) ≤ 365 ∧
    (o - (365 * ((o - o / 1460 + o / 36524 - o / 146096) / 365) + (o - o / 1460 + o / 36524 - o / 146096) / 365 / 4 - (o - o / 1460 + o / 36524 - o / 146096) / 365 / 100) = 365 →
      (((o - o / 1460 + o / 36524 - o / 146096) / 365 + 1) % 4 = 0 ∧ (((o - o / 1460 + o / 36524 - o / 146096) / 365 + 1) % 100 ≠ 0 ∨ ((o - o / 1460 + o / 36524 - o / 146096) / 365 + 1) % 400 = 0))) := by
  by_cases h4 : o = 146096
  · subst h4; decide
  · obtain ⟨c, r, hc, hr, rfl⟩ : ∃ c r, c ≤ 3 ∧ r < 36524 ∧ o = 36524 * c + r := ⟨o / 36524, o % 36524, by omega, by omega, by omega⟩
    have e1 : (36524 * c + r) / 36524 = c := by omega
    have e2 : (36524 * c + r) / 146096 = 0 := by omega
    have e3 : (36524 * c + r) / 1460 = 25 * c + (24 * c + r) / 1460 := by omega
    rw [e1, e2, e3]
    have e4 : 36524 * c + r - (25 * c + (24 * c + r) / 1460) + c - 0 = 36500 * c + (r - (24 * c + r) / 1460) := by omega
    have e5 : (36500 * c + (r - (24 * c + r) / 1460)) / 365 = 100 * c + (r - (24 * c + r) / 1460) / 365 := by omega
    rw [e4, e5]
    have k := core2 c r ((24 * c + r) / 1460) ((r - (24 * c + r) / 1460) / 365) ((r - (24 * c + r) / 1460) % 365) hc hr rfl (by omega) (by omega)
    generalize (r - (24 * c + r) / 1460) / 365 = v at *
    clear e1 e2 e3 e4 e5
    omega
theorem era_int (n : Int) : 0 ≤ ye n ∧ ye n ≤ 399 ∧ 0 ≤ dd n ∧ dd n ≤ 365 ∧ (dd n = 365 → leap (ye n + 1)) ∧ eo n = 365 * ye n + ye n / 4 - ye n / 100 + dd n := by
  have h0 : 0 ≤ eo n := by unfold eo; omega
  have h1 : eo n < 146097 := by unfold eo; omega
  have k := era_core (eo n).toNat (by omega)
  have hy : ye n = ((((eo n).toNat - (eo n).toNat / 1460 + (eo n).toNat / 36524 - (eo n).toNat / 146096) / 365 : Nat) : Int) := by unfold ye; omega
  have hd : dd n = eo n - (365 * ye n + ye n / 4 - ye n / 100) := rfl
  generalize ((eo n).toNat - (eo n).toNat / 1460 + (eo n).toNat / 36524 - (eo n).toNat / 146096) / 365 = v at *
  obtain ⟨k1, k2, k3, k4⟩ := k
  generalize ye n = y at *
  generalize dd n = d at *
  subst hy
  refine ⟨by omega, by omega, by omega, by omega, ?_, by omega⟩
  intro h365
  have := k4 (by omega)
  unfold leap
  omega
theorem years_era (y e : Int) : years (y + e * 400) = years y + 146097 * e := by unfold years; omega
theorem years_next (y : Int) (h0 : 0 ≤ y) (h1 : y ≤ 399) : years (y + 1) = 365 * y + y / 4 - y / 100 + 366 := by unfold years; omega
theorem mp_bd (n : Int) : 0 ≤ mp n ∧ mp n ≤ 11 := by have := era_int n; unfold mp; omega
theorem cum_mar (y m : Int) (h : 3 ≤ m) : years y + cum y m = years (y + 1) - 367 + (367 * m - 362) / 12 := by
  have := years_succ y
  unfold cum
  rw [if_neg (by omega)]
  by_cases hl : leap y
  · rw [if_pos hl] at this ⊢; omega
  · rw [if_neg hl] at this ⊢; omega
theorem date_dayno (n : Int) : dayno (yrOf n) (moOf n) (dyOf n) = n := by
  obtain ⟨h1, h2, h3, h4, h5, h6⟩ := era_int n
  obtain ⟨m1, m2⟩ := mp_bd n
  have hm : mp n = (5 * dd n + 2) / 153 := rfl
  have he : n + 719468 = 146097 * ((n + 719468) / 146097) + eo n := by unfold eo; omega
  have hn := years_next (ye n) h1 h2
  unfold dayno yrOf moOf dyOf yr0
  rw [years_1970]
  generalize (n + 719468) / 146097 = E at *
  by_cases hc : 12 < mp n + 3
  · rw [if_pos hc, if_pos hc, show ye n + E * 400 + 1 = (ye n + 1) + E * 400 by omega, years_era]
    unfold cum
    rw [if_pos (by omega)]
    generalize mp n = M at *
    generalize dd n = D at *
    clear h5
    omega
  · rw [if_neg hc, if_neg hc]
    have k := cum_mar (ye n + E * 400) (mp n + 3) (by omega)
    rw [show ye n + E * 400 + 1 = (ye n + 1) + E * 400 by omega, years_era (ye n + 1)] at k
    generalize cum (ye n + E * 400) (mp n + 3) = C at *
    generalize years (ye n + E * 400) = Z at *
    generalize years (ye n + 1) = Z1 at *
    generalize mp n = M at *
    generalize dd n = D at *
    clear h5
    obtain rfl | rfl | rfl | rfl | rfl | rfl | rfl | rfl | rfl | rfl : M = 0 ∨ M = 1 ∨ M = 2 ∨ M = 3 ∨ M = 4 ∨ M = 5 ∨ M = 6 ∨ M = 7 ∨ M = 8 ∨ M = 9 := by omega
    all_goals omega
theorem leap_era (y k : Int) : leap (y + k * 400) ↔ leap y := by unfold leap; omega
theorem date_valid (n : Int) : valid (yrOf n) (moOf n) (dyOf n) := by
  obtain ⟨h1, h2, h3, h4, h5, h6⟩ := era_int n
  obtain ⟨m1, m2⟩ := mp_bd n
  have hm : mp n = (5 * dd n + 2) / 153 := rfl
  unfold valid yrOf moOf dyOf yr0 long
  by_cases hc : 12 < mp n + 3
  · rw [if_pos hc, if_pos hc]
    have e : ye n + (n + 719468) / 146097 * 400 + 1 = (ye n + 1) + (n + 719468) / 146097 * 400 := by omega
    rw [e]
    simp only [leap_era]
    by_cases hl : leap (ye n + 1)
    · simp only [hl, if_true]
      generalize mp n = M at *
      generalize dd n = D at *
      clear h5 h6 e
      obtain rfl | rfl : M = 10 ∨ M = 11 := by omega
      all_goals simp
      all_goals omega
    · have h5' : dd n ≠ 365 := fun h => hl (h5 h)
      simp only [hl, if_false]
      generalize mp n = M at *
      generalize dd n = D at *
      clear h5 h6 e
      obtain rfl | rfl : M = 10 ∨ M = 11 := by omega
      all_goals simp
      all_goals omega
  · rw [if_neg hc, if_neg hc]
    generalize mp n = M at *
    generalize dd n = D at *
    clear h5 h6
    obtain rfl | rfl | rfl | rfl | rfl | rfl | rfl | rfl | rfl | rfl : M = 0 ∨ M = 1 ∨ M = 2 ∨ M = 3 ∨ M = 4 ∨ M = 5 ∨ M = 6 ∨ M = 7 ∨ M = 8 ∨ M = 9 := by omega
    all_goals simp
    all_goals omega
theorem yrOf_lo {n y : Int} (h : years y - years 1970 ≤ n) : y ≤ yrOf n := by
  have hv := date_valid n; have hd := date_dayno n
  obtain ⟨a1, a2, a3, a4⟩ := hv
  have c1 := cum_bd (yrOf n) (moOf n) a1 a2
  rcases Int.lt_or_le (yrOf n) y with hl | hl
  · have := years_le hl
    unfold dayno at hd
    omega
  · exact hl
theorem yrOf_hi {n y : Int} (h : n < years (y + 1) - years 1970) : yrOf n ≤ y := by
  have hv := date_valid n; have hd := date_dayno n
  obtain ⟨a1, a2, a3, a4⟩ := hv
  have c1 := cum_bd (yrOf n) (moOf n) a1 a2
  rcases Int.lt_or_le y (yrOf n) with hl | hl
  · have := years_mono (show y + 1 ≤ yrOf n by omega)
    unfold dayno at hd
    omega
  · exact hl
end Tide
namespace Go.Proofs.YtidonhndeohdlaaGreatDoor
open Go.RowKit
theorem ret_int3 {k k' k'' : IntKind} {a b c d e f : Int} (h : a = b) (h' : c = d) (h'' : e = f) : Ending.returned (.tuple #[.int k a, .int k' c, .int k'' e]) = .returned (.tuple #[.int k b, .int k' d, .int k'' f]) := by rw [h, h', h'']
set_option maxHeartbeats 400000 in
theorem civFloor (a b : Int) (w : World) (hb : 1 ≤ b) (h0 : -4000000000000000000 ≤ a) (h1 : a ≤ 4000000000000000000) : Calls Tryz.prog 175 #[.int .i64 a, .int .i64 b] w fun e w' => e = .returned (.int .i64 (a / b)) ∧ w = w' := by
  have h := Lib.hid (tdiv_floor a b (by omega))
  have hd := tdiv_bd a b (by omega) h0 h1
  obtain ⟨d0, d1⟩ := hd
  by_cases hm : a.tmod b < 0
  · go_enter Tryz.func175, Tryz.ntmps175
    go_wp2
    go_ret
    exact ⟨ret_int (by have := h.out; rw [if_pos hm] at this; exact this), rfl⟩
  · go_enter Tryz.func175, Tryz.ntmps175
    go_wp2
    go_ret
    exact ⟨ret_int (by have := h.out; rw [if_neg (by omega)] at this; exact this), rfl⟩
open Go.RowKit
def okDate (y m d : Int) : Prop := -4000 ≤ y ∧ y ≤ 8000 ∧ Tide.valid y m d
instance (y m d : Int) : Decidable (okDate y m d) := by unfold okDate Tide.valid; infer_instance
set_option maxHeartbeats 1600000 in
theorem civDate (n : Int) (w : World) (n0 : -4000000 ≤ n) (n1 : n ≤ 4000000) : Calls Tryz.prog 176 #[.int .i64 n] w fun e w' => e = .returned (.tuple #[.int .i64 (Tide.yrOf n), .int .i64 (Tide.moOf n), .int .i64 (Tide.dyOf n)]) ∧ w = w' := by
  have ho : n + 719468 - (n + 719468) / 146097 * 146097 = Tide.eo n := by unfold Tide.eo; omega
  obtain ⟨h1, h2, h3, h4, h5, h6⟩ := Tide.era_int n
  clear h5 h6
  have o0 : 0 ≤ Tide.eo n := by unfold Tide.eo; omega
  have o1 : Tide.eo n < 146097 := by unfold Tide.eo; omega
  have hy : (Tide.eo n - Tide.eo n / 1460 + Tide.eo n / 36524 - Tide.eo n / 146096) / 365 = Tide.ye n := rfl
  have hd : Tide.eo n - (365 * Tide.ye n + Tide.ye n / 4 - Tide.ye n / 100) = Tide.dd n := rfl
  have hm : (5 * Tide.dd n + 2) / 153 = Tide.mp n := rfl
  obtain ⟨m0, m1⟩ := Tide.mp_bd n
  have hdy : Hid (Tide.dd n - (153 * Tide.mp n + 2) / 5 + 1 = Tide.dyOf n) := rfl
  by_cases hc : 12 < Tide.mp n + 3
  · have k1 : Hid (Tide.ye n + (n + 719468) / 146097 * 400 + 1 = Tide.yrOf n) := by show _ = _; unfold Tide.yrOf Tide.yr0; rw [if_pos hc]
    have k2 : Hid (Tide.mp n + 3 - 12 = Tide.moOf n) := by show _ = _; unfold Tide.moOf; rw [if_pos hc]; omega
    go_enter Tryz.func176, Tryz.ntmps176
    go_wp2_with (first | (go_at_call 175; refine (civFloor _ _ _ (by omega) (by omega) (by omega)).mono ?_; rintro e w' ⟨rfl, rfl⟩))
    go_ret3
    exact ⟨ret_int3 k1.out k2.out hdy.out, rfl⟩
  · have k1 : Hid (Tide.ye n + (n + 719468) / 146097 * 400 = Tide.yrOf n) := by show _ = _; unfold Tide.yrOf Tide.yr0; rw [if_neg hc]
    have k2 : Hid (Tide.mp n + 3 = Tide.moOf n) := by show _ = _; unfold Tide.moOf; rw [if_neg hc]
    go_enter Tryz.func176, Tryz.ntmps176
    go_wp2_with (first | (go_at_call 175; refine (civFloor _ _ _ (by omega) (by omega) (by omega)).mono ?_; rintro e w' ⟨rfl, rfl⟩))
    go_ret3
    exact ⟨ret_int3 k1.out k2.out hdy.out, rfl⟩
def civZero : Value := .agg #[.int .i64 0, .int .i64 0, .int .i64 0, .int .i64 0, .int .i64 0, .int .i64 0, .int .i64 0]
def civAgg (s h : Int) : Value := .agg #[.int .i64 (Tide.yrOf ((s + 60 * h) / 86400)), .int .i64 (Tide.moOf ((s + 60 * h) / 86400)), .int .i64 (Tide.dyOf ((s + 60 * h) / 86400)), .int .i64 ((s + 60 * h) % 86400 / 3600), .int .i64 ((s + 60 * h) % 86400 / 60 % 60), .int .i64 ((s + 60 * h) % 86400 % 60), .int .i64 (((s + 60 * h) / 86400 + 4) % 7)]
def okTime (s h : Int) : Prop := -100000000000 ≤ s ∧ s ≤ 100000000000 ∧ -900 ≤ h ∧ h ≤ 900
instance (s h : Int) : Decidable (okTime s h) := by unfold okTime; infer_instance
set_option maxHeartbeats 1600000 in
theorem civOf_no (s h : Int) (w : World) (hb : ¬ okTime s h) : Calls Tryz.prog 172 #[.int .i64 s, .int .i64 h] w fun e w' =>
    e = .returned (.tuple #[civZero, .int .i64 1]) ∧ Below w.heap.size w w' := by
  have hc : s < -100000000000 ∨ (-100000000000 ≤ s ∧ 100000000000 < s) ∨ (-100000000000 ≤ s ∧ s ≤ 100000000000 ∧ h < -900) ∨ (-100000000000 ≤ s ∧ s ≤ 100000000000 ∧ -900 ≤ h ∧ 900 < h) := by unfold okTime at hb; omega
  clear hb
  rcases hc with hc | ⟨hc, hd⟩ | ⟨hc, hd, he⟩ | ⟨hc, hd, he, hf⟩
  all_goals
    go_enter Tryz.func172, Tryz.ntmps172
    go_wp2
    refine bodyPost_ret (v := .tuple #[.agg #[.int .i64 0, .int .i64 0, .int .i64 0, .int .i64 0, .int .i64 0, .int .i64 0, .int .i64 0], .int .i64 1]) (by simp [results, Tryz.results172, go_sem]) rfl ⟨rfl, ?_⟩
    go_grown
set_option maxHeartbeats 1600000 in
theorem civOf_yes (s h : Int) (w : World) (hb : okTime s h) : Calls Tryz.prog 172 #[.int .i64 s, .int .i64 h] w fun e w' =>
    e = .returned (.tuple #[civAgg s h, .int .i64 0]) ∧ Below w.heap.size w w' := by
  obtain ⟨b0, b1, b2, b3⟩ := hb
  have em : s + 60 * h - (s + 60 * h) / 86400 * 86400 = (s + 60 * h) % 86400 := by omega
  have ew : (s + 60 * h) / 86400 + 4 - 7 * (((s + 60 * h) / 86400 + 4) / 7) = ((s + 60 * h) / 86400 + 4) % 7 := by omega
  have y0 := Tide.yrOf_lo (n := (s + 60 * h) / 86400) (y := -4000) (by rw [Tide.years_1970]; unfold Tide.years; omega)
  have y1 := Tide.yrOf_hi (n := (s + 60 * h) / 86400) (y := 8000) (by rw [Tide.years_1970]; unfold Tide.years; omega)
  go_enter Tryz.func172, Tryz.ntmps172
  go_wp2_with (first | (go_at_call 175; refine (civFloor _ _ _ (by omega) (by omega) (by omega)).mono ?_; rintro e w' ⟨rfl, rfl⟩) | (go_at_call 176; refine (civDate _ _ (by omega) (by omega)).mono ?_; rintro e w' ⟨rfl, rfl⟩))
  refine bodyPost_ret (v := .tuple #[civAgg s h, .int .i64 0]) (by simp [results, Tryz.results172, go_sem, civAgg]) rfl ⟨rfl, ?_⟩
  go_grown
end Go.Proofs.YtidonhndeohdlaaGreatDoor
namespace Tide
open Go
structure Pace where
  win : Int
  pods : Int
  pct : Int
  per : Int
def clipT (n : Int) : Int := min (max n 0) 100000
def Pace.fix (p : Pace) : Pace := ⟨clipT p.win, clipT p.pods, clipT p.pct, clipT p.per⟩
def Pace.ok (p : Pace) : Prop := (0 ≤ p.win ∧ p.win ≤ 100000) ∧ (0 ≤ p.pods ∧ p.pods ≤ 100000) ∧ (0 ≤ p.pct ∧ p.pct ≤ 100000) ∧ (0 ≤ p.per ∧ p.per ≤ 100000)
theorem clipT_bd (n : Int) : 0 ≤ clipT n ∧ clipT n ≤ 100000 := by unfold clipT; omega
theorem Pace.fix_ok (p : Pace) : p.fix.ok := ⟨clipT_bd _, clipT_bd _, clipT_bd _, clipT_bd _⟩
def Pace.limited (p : Pace) : Bool := decide (0 < p.per) && (decide (0 < p.pods) || decide (0 < p.pct))
abbrev Mark := Int × Int
def encM (m : Mark) : List Value := [.int .i64 m.1, .int .i64 m.2]
theorem encM_length (m : Mark) : (encM m).length = 2 := rfl
def behindL (l : List Mark) (at0 : Int) : List Mark := (l.reverse.takeWhile (fun m => decide (at0 < m.1))).reverse
theorem behind_eq {l : List Mark} {at0 : Int} {i : Nat} (hi : i ≤ l.length) (h : ∀ m ∈ l.drop i, at0 < m.1) (h0 : i = 0 ∨ ∃ m, l[i - 1]? = some m ∧ m.1 ≤ at0) : behindL l at0 = l.drop i := by
  have e : l.reverse = (l.drop i).reverse ++ (l.take i).reverse := by rw [← List.reverse_append, List.take_append_drop]
  unfold behindL
  rw [e, List.takeWhile_append_of_pos (fun m hm => by simpa using h m (List.mem_reverse.1 hm))]
  have : (l.take i).reverse.takeWhile (fun m => decide (at0 < m.1)) = [] := by
    rcases h0 with h0 | ⟨m, hm, hle⟩
    · subst h0; simp
    · have hp : 0 < i := by
        rcases Nat.eq_zero_or_pos i with hz | hz
        · exfalso; subst hz
          have := h m (by simpa using List.mem_of_getElem? hm)
          omega
        · exact hz
      have : l.take i = l.take (i - 1) ++ [m] := by
        have := take_of_get hm
        rwa [show i - 1 + 1 = i by omega] at this
      have hd : decide (at0 < m.1) = false := by simp; omega
      rw [this, List.reverse_append]
      simp only [List.reverse_cons, List.reverse_nil, List.nil_append, List.cons_append, List.takeWhile_cons, hd]
      rfl
  rw [this, List.append_nil, List.reverse_reverse]
theorem behindL_mem {l : List Mark} {at0 : Int} : ∀ m ∈ behindL l at0, m ∈ l := fun m hm => by
  unfold behindL at hm
  exact List.mem_reverse.1 ((List.takeWhile_sublist _).subset (List.mem_reverse.1 hm))
theorem behindL_length (l : List Mark) (at0 : Int) : (behindL l at0).length ≤ l.length := by
  unfold behindL
  rw [List.length_reverse]
  exact Nat.le_trans (List.takeWhile_sublist _).length_le (by rw [List.length_reverse]; exact Nat.le_refl _)
theorem ceilc_bd (a : Int) : -1000000000000000 ≤ ceilc a 100 ∧ ceilc a 100 ≤ 1000000000000000 := by
  have : -1000000000000000 ≤ clip a ∧ clip a ≤ 1000000000000000 := by unfold clip; split <;> (try split) <;> omega
  have e : clip 100 = 100 := by decide
  unfold ceilc; rw [e]; omega
theorem sharec_bd (a m : Int) : -1000000000000000 ≤ sharec a m ∧ sharec a m ≤ 1000000000000000 := by
  unfold sharec; unfold clip; split <;> (try split) <;> omega
theorem mul_bd {a b x y : Int} (h0 : 0 ≤ a) (h1 : a ≤ x) (h2 : 0 ≤ b) (h3 : b ≤ y) : 0 ≤ a * b ∧ a * b ≤ x * y := ⟨Int.mul_nonneg h0 h2, Int.mul_le_mul h1 h3 h2 (by omega)⟩
def minAll (l : List Mark) (x : Int) : Int := l.foldl (fun a m => min a m.2) x
def maxAll (l : List Mark) (x : Int) : Int := l.foldl (fun a m => max a m.2) x
def sumUp (l : List Mark) (x : Int) : Int := l.foldl (fun a m => a + max m.2 0) x
def sumDown (l : List Mark) (x : Int) : Int := l.foldl (fun a m => a + max (-m.2) 0) x
theorem fold_snoc {α β : Type} {f : β → α → β} {l : List α} {k : Nat} {m : α} {x : β} (h : l[k]? = some m) : (l.take (k + 1)).foldl f x = f ((l.take k).foldl f x) m := by rw [take_of_get h, List.foldl_append]; rfl
theorem minAll_bd : ∀ (l : List Mark) (x : Int), 0 ≤ x → x ≤ 50 → (∀ m ∈ l, 0 ≤ m.2 ∧ m.2 ≤ 50) → 0 ≤ minAll l x ∧ minAll l x ≤ 50
  | [], x, h0, h1, _ => ⟨h0, h1⟩
  | a :: l, x, h0, h1, h => by
    have := h a (by simp)
    exact minAll_bd l (min x a.2) (by omega) (by omega) (fun m hm => h m (by simp [hm]))
theorem maxAll_bd : ∀ (l : List Mark) (x : Int), 0 ≤ x → x ≤ 50 → (∀ m ∈ l, 0 ≤ m.2 ∧ m.2 ≤ 50) → 0 ≤ maxAll l x ∧ maxAll l x ≤ 50
  | [], x, h0, h1, _ => ⟨h0, h1⟩
  | a :: l, x, h0, h1, h => by
    have := h a (by simp)
    exact maxAll_bd l (max x a.2) (by omega) (by omega) (fun m hm => h m (by simp [hm]))
theorem sumUp_bd : ∀ (l : List Mark) (x : Int), (∀ m ∈ l, -50 ≤ m.2 ∧ m.2 ≤ 50) → x ≤ sumUp l x ∧ sumUp l x ≤ x + 50 * l.length
  | [], x, _ => ⟨by simp [sumUp], by simp [sumUp]⟩
  | a :: l, x, h => by
    have := h a (by simp)
    have ih := sumUp_bd l (x + max a.2 0) (fun m hm => h m (by simp [hm]))
    have e : sumUp (a :: l) x = sumUp l (x + max a.2 0) := rfl
    rw [e, List.length_cons]; omega
theorem sumDown_bd : ∀ (l : List Mark) (x : Int), (∀ m ∈ l, -50 ≤ m.2 ∧ m.2 ≤ 50) → x ≤ sumDown l x ∧ sumDown l x ≤ x + 50 * l.length
  | [], x, _ => ⟨by simp [sumDown], by simp [sumDown]⟩
  | a :: l, x, h => by
    have := h a (by simp)
    have ih := sumDown_bd l (x + max (-a.2) 0) (fun m hm => h m (by simp [hm]))
    have e : sumDown (a :: l) x = sumDown l (x + max (-a.2) 0) := rfl
    rw [e, List.length_cons]; omega
structure Stb where
  up : Pace
  down : Pace
  last : Int
  wanted : List Mark
  moved : List Mark
structure Stb.ok (s : Stb) (j : Nat) : Prop where
  up : s.up.ok
  down : s.down.ok
  last0 : 0 ≤ s.last
  last1 : s.last ≤ 1099511627776
  wan : ∀ m ∈ s.wanted, (0 ≤ m.2 ∧ m.2 ≤ 50) ∧ (0 ≤ m.1 ∧ m.1 ≤ s.last)
  mov : ∀ m ∈ s.moved, (-50 ≤ m.2 ∧ m.2 ≤ 50) ∧ (0 ≤ m.1 ∧ m.1 ≤ s.last)
  wsort : s.wanted.Pairwise (fun a b => a.1 ≤ b.1)
  msort : s.moved.Pairwise (fun a b => a.1 ≤ b.1)
  wlen : s.wanted.length ≤ j
  mlen : s.moved.length ≤ j
def baseUp (s : Stb) (now have0 : Int) : Int := max (have0 - sumUp (behindL s.moved (now - s.up.per)) 0) 0
def moreN (s : Stb) (now have0 want : Int) : Int :=
  let w1 := minAll (behindL s.wanted (now - s.up.win)) want
  max (if s.up.limited then min w1 (baseUp s now have0 + max s.up.pods (ceilc (baseUp s now have0 * s.up.pct) 100)) else w1) have0
def baseDown (s : Stb) (now have0 : Int) : Int := sumDown (behindL s.moved (now - s.down.per)) have0
def fewerN (s : Stb) (now have0 want : Int) : Int :=
  let w1 := maxAll (behindL s.wanted (now - s.down.win)) want
  min (if s.down.limited then max w1 (baseDown s now have0 - max s.down.pods (sharec (baseDown s now have0) (10 * s.down.pct))) else w1) have0
def settleOk (s : Stb) (now have0 want : Int) : Bool := decide (s.last ≤ now) && decide (now ≤ 1099511627776) && (decide (0 ≤ have0) && decide (have0 ≤ 50)) && (decide (0 ≤ want) && decide (want ≤ 50))
def Stb.seen (s : Stb) (now want : Int) : Stb := { s with last := now, wanted := s.wanted ++ [(now, want)] }
def settleN0 (s : Stb) (now have0 want : Int) : Int := if have0 < want then moreN s now have0 want else if want < have0 then fewerN s now have0 want else have0
def settleN (s : Stb) (now have0 want : Int) : Int := if settleOk s now have0 want then settleN0 (s.seen now want) now have0 want else 0
def settleE (s : Stb) (now have0 want : Int) : Int := if settleOk s now have0 want then 0 else 1
def Stb.went (s : Stb) (now n : Int) : Stb := { s with moved := s.moved ++ [(now, n)] }
def settleS (s : Stb) (now have0 want : Int) : Stb :=
  if settleOk s now have0 want then (if settleN0 (s.seen now want) now have0 want = have0 then s.seen now want else (s.seen now want).went now (settleN0 (s.seen now want) now have0 want - have0)) else s
end Tide
namespace Tide
open Go Go.ChangeShapes Go.WideShapes Go.ChangeAt Go.RowKit
section
variable {H : Type} {enc : TypeId × Value → H} {P : Program}
theorem trodAll_stays (hl : laidOutB P = true) {W W' : World} (hb : Below W.heap.size W W') (sp : Nat → Bool) : ∀ {ts : List TypeId} {vs : List Value} {ds : List (DataW H)} {ps : List MemPlace},
    (∀ t ∈ ts, P.readableRec t = true ∧ t < P.types.size) → DataW.TrodAll enc P W 0 (fun _ => true) true ts vs ds ps → (∀ x ∈ ps, x.block < W.heap.size) → (∀ x ∈ ps, sp x.block = true) →
    DataW.TrodAll enc P W' 0 sp true ts vs ds ps
  | [], vs, ds, ps, _, h, _, _ => by
    obtain ⟨rfl, rfl, rfl⟩ := trodAll_nil h
    exact trodAll_mk0
  | t :: ts, vs, ds, ps, ht, h, hlt, hs => by
    obtain ⟨v, vs', d, ds', p, p', rfl, rfl, rfl, h0, hr⟩ := trodAll_cons h
    have h1 := ht t (by simp)
    refine trodAll_cons_mk ?_ (trodAll_stays hl hb sp (fun t' h' => ht t' (by simp [h'])) hr (fun x hx => hlt x (by simp [hx])) (fun x hx => hs x (by simp [hx])))
    exact WideElems.Trod_stays hl h1.1 h1.2 h0 (fun x hx => hb.same (hlt x (by simp [hx]))) (fun x hx => hs x (by simp [hx]))
theorem law_post {f : Func} {s : ChangeSpec} {apart fresh handsOn again : Bool} {W W' : World} {args : Array Value} {v : Value} {ds : List (DataW H)} {ps : List MemPlace}
    (hvars : s.vars = []) (hl : laidOutB P = true) (hts : ∀ t ∈ f.params.toList, P.readableRec t = true ∧ t < P.types.size)
    (hW : DataW.Whole enc P f.params.toList s.vars apart W args.toList ds [] ps) (hA : DataW.TrodAll enc P W 0 (fun _ => true) true f.params.toList args.toList ds ps)
    (hres : ∀ (b : Nat) (sp : Nat → Bool) (hd : Bool), DataW.TrodAll enc P W' b sp hd f.resultTypes.toList (v.resultList f.resultTypes.size) (s.fn H ds).results [])
    (hds : (s.fn H ds).args = ds) (hgs : (s.fn H ds).vars = []) (hb : Below W.heap.size W W')
    (hok : ∀ (j : Nat) (t : TypeId) (r : Value), f.resultTypes[j]? = some t → (v.resultList f.resultTypes.size)[j]? = some r → Value.okWide P W' .any 0 t r) :
    s.post enc P f apart fresh handsOn again W args v W' := by
  have hlt : ∀ p ∈ ps, p.block < W.heap.size := fun p hp => hW.lt p hp
  have hold : ∀ p ∈ ps, (fun b => decide (b < W.heap.size)) p.block = true := fun p hp => by simpa using hlt p hp
  have hargs : ∀ sp : Nat → Bool, (∀ p ∈ ps, sp p.block = true) → DataW.TrodAll enc P W' 0 sp true f.params.toList args.toList (s.fn H (ds ++ [])).args ps := fun sp h => by
    rw [List.append_nil, hds]
    exact trodAll_stays hl hb sp hts hA hlt h
  have hv : ∀ sp : Nat → Bool, DataW.TrodVars enc P W' sp s.vars (s.fn H (ds ++ [])).vars [] := fun sp => by
    rw [List.append_nil, hvars, hgs]; rfl
  have hres' : ∀ (b : Nat) (sp : Nat → Bool) (hd : Bool), DataW.TrodAll enc P W' b sp hd f.resultTypes.toList (v.resultList f.resultTypes.size) (s.fn H (ds ++ [])).results [] := fun b sp hd => by
    rw [List.append_nil]; exact hres b sp hd
  refine ⟨ds, [], ps, [], ps, [], hW, hres' _ _ _, hargs _ hold, hv _, World.keptBut_mono (fun p hp => ⟨hp, ?_⟩) (hb.frame (· ∈ ps)), fun _ => ?_⟩
  · exact Or.inr (by simpa using hp)
  · obtain ⟨_, _, _, _, _, hz, hn⟩ := hW
    refine ⟨hok, _, _, ([] ++ ps) ++ [], ⟨[] ++ ps, [], trodAll_append (hargs _ (fun _ _ => rfl)) (hres' _ _ _), hv _, rfl, ?_, ?_⟩, ?_⟩
    · intro b off hp
      have hin : MemPlace.cell b off ∈ ps := by simpa using hp
      rw [hb.frozen (hlt _ hin)]
      exact hz b off hin
    · intro ha
      simpa using hn ha
    · intro p hp _
      simpa using hp
end
end Tide
namespace Go.Proofs.YtidonhndeohdlaaGreatDoor
open Go.RowKit
theorem build_law {P : Program} {ops : Array Oper} {rest : List Oper} {o : Oper} {a : Act} {w : World} {Q : Exit → Act → World → Prop} (hg : o.guard = none) (t : TypeId) (parts : Array (Nat × Operand)) (ho : o.op = .build t parts) (l : List (Nat × Value)) (hp : parts.toList.map (fun y => (y.1, a.eval y.2)) = l)
    (cells : Array Value) (h : P.built t l = some cells) (k : wpList P ops Q rest (a.put o.dst (.agg cells)) w) : wpList P ops Q (o :: rest) a w :=
  wpList_plain hg fun _ hK => by
    subst hp
    rw [← Array.toList_map] at h
    unfold Oper.wp execOp
    simp only [ho, Sem.run_bind, Sem.run_pure, run_build w t _ cells h, Result.andThen_ok]
    exact hK _ _ k
theorem bslice_law {P : Program} {ops : Array Oper} {rest : List Oper} {o : Oper} {a : Act} {w : World} {Q : Exit → Act → World → Prop} (hg : o.guard = none) (t e : TypeId) (len : Nat) (parts : Array (Nat × Operand)) (ho : o.op = .buildSlice t len parts) (l : List (Nat × Value)) (hp : parts.toList.map (fun y => (y.1, a.eval y.2)) = l)
    (cells : Array Value) (ie : TypeInfo) (z : Value) (hu : P.underlying t = some (.slice e)) (hie : P.info? e = some ie) (hz : ie.zero = some z) (hsmall : ¬ len * ie.size > 2 ^ 24) (hpos : ¬ len * ie.size = 0)
    (hf : Instr.fill (fun i => some (i * ie.size, ie.size)) ((Array.range (len * ie.size)).map (z.cells[· % z.cells.size]!)) l = some cells)
    (k : wpList P ops Q rest (a.put o.dst (.slice (some ⟨w.heap.size, 0, none⟩) len len)) (w.alloc (.cells cells e))) : wpList P ops Q (o :: rest) a w := by
  subst hp
  rw [← Array.toList_map] at hf
  exact wpList_buildSlice hg t e len parts ho cells ie z hu hie hz hsmall hpos hf k
theorem info_two {i : Option TypeInfo} {z : Option Value} {s : Nat} (h : i.map (fun i => (i.zero, i.size)) = some (z, s)) : ∃ j, i = some j ∧ j.zero = z ∧ j.size = s := by
  cases i with
  | none => cases h
  | some j => simp only [Option.map_some, Option.some.injEq, Prod.mk.injEq] at h; exact ⟨j, rfl, h.1, h.2⟩
end Go.Proofs.YtidonhndeohdlaaGreatDoor
namespace Tide
def picks (kind : Int) (k : Nat) (x : Int) : Bool := decide (0 < x) && (decide (kind = 1) || decide (k = 0))
def metN (kind : Int) (f : Nat → Int) : Nat → Int
  | 0 => 0
  | k + 1 => if picks kind k (f k) then addc (metN kind f k) (f k) else metN kind f k
def metM (kind : Int) (f : Nat → Int) : Nat → Nat
  | 0 => 0
  | k + 1 => if picks kind k (f k) then metM kind f k + 1 else metM kind f k
def spot (xs : List Int) (i : Nat) : Int := (xs[i]?).getD 0
theorem spot_get {xs : List Int} {i : Nat} {x : Int} (h : xs[i]? = some x) : spot xs i = x := by unfold spot; rw [h]; rfl
theorem metM_le (kind : Int) (f : Nat → Int) (k : Nat) : metM kind f k ≤ k := by
  induction k with
  | zero => exact Nat.le_refl _
  | succ k ih => unfold metM; split <;> omega
end Tide
namespace Go.Proofs.YtidonhndeohdlaaGreatDoor
open Go.RowKit
def partCells (l : List (Int × Int)) : List Value := l.flatMap fun p => [.int .i64 p.1, .int .i64 p.2]
theorem partCells_get0 : ∀ (l : List (Int × Int)) (k : Nat) (e o : Int), l[k]? = some (e, o) → (partCells l)[k * 2]? = some (.int .i64 e) ∧ (partCells l)[k * 2 + 1]? = some (.int .i64 o)
  | [], k, e, o, h => by simp at h
  | p :: l, 0, e, o, h => by
    simp at h; subst h; exact ⟨rfl, rfl⟩
  | p :: l, k + 1, e, o, h => by
    have := partCells_get0 l k e o (by simpa using h)
    have e1 : (k + 1) * 2 = k * 2 + 2 := by omega
    rw [e1]
    exact this
theorem partCells_set1 : ∀ (l : List (Int × Int)) (k : Nat) (e o e' : Int), l[k]? = some (e, o) → (partCells l).set (k * 2) (.int .i64 e') = partCells (l.set k (e', o))
  | [], k, e, o, e', h => by simp at h
  | p :: l, 0, e, o, e', h => by
    simp at h; subst h; rfl
  | p :: l, k + 1, e, o, e', h => by
    have := partCells_set1 l k e o e' (by simpa using h)
    have e1 : (k + 1) * 2 = k * 2 + 2 := by omega
    rw [e1]
    show _ :: _ :: (partCells l).set (k * 2) _ = _ :: _ :: partCells (l.set k _)
    rw [this]
theorem partCells_set2 : ∀ (l : List (Int × Int)) (k : Nat) (e o o' : Int), l[k]? = some (e, o) → (partCells l).set (k * 2 + 1) (.int .i64 o') = partCells (l.set k (e, o'))
  | [], k, e, o, e', h => by simp at h
  | p :: l, 0, e, o, e', h => by
    simp at h; subst h; rfl
  | p :: l, k + 1, e, o, e', h => by
    have := partCells_set2 l k e o e' (by simpa using h)
    have e1 : (k + 1) * 2 + 1 = k * 2 + 1 + 2 := by omega
    rw [e1]
    show _ :: _ :: (partCells l).set (k * 2 + 1) _ = _ :: _ :: partCells (l.set k _)
    rw [this]
structure TopicAt (w : World) (g p : Nat) (l : List (Int × Int)) : Prop where
  head : Tide.At w g 131 #[.slice (some ⟨p, 0, none⟩) l.length l.length]
  parts : Tide.At w p 140 (partCells l).toArray
  small : l.length ≤ 20
theorem TopicAt.apart {w : World} {g p : Nat} {l : List (Int × Int)} (h : TopicAt w g p l) : g ≠ p := h.head.apart h.parts (by decide)
theorem TopicAt.put1 {w : World} {g p : Nat} {l : List (Int × Int)} (h : TopicAt w g p l) {n : Nat} {e o : Int} (hn : l[n]? = some (e, o)) (e' : Int) :
    TopicAt ((w.setCell ⟨p, n * 2, none⟩ (.int .i64 e')).drew) g p (l.set n (e', o)) ∧ Tide.Chg (· = p) w ((w.setCell ⟨p, n * 2, none⟩ (.int .i64 e')).drew) := by
  refine ⟨⟨?_, ?_, by simpa using h.small⟩, ((Tide.Chg.refl (· = p) w).put (p := ⟨p, n * 2, none⟩) (.inl rfl) _).drew⟩
  · have := (h.head.other (p := ⟨p, n * 2, none⟩) h.apart (.int .i64 e')).drew
    rw [List.length_set]; exact this
  · have := (h.parts.put (n * 2) (.int .i64 e')).drew
    rw [← partCells_set1 l n e o e' hn]
    simpa using this
theorem TopicAt.put2 {w : World} {g p : Nat} {l : List (Int × Int)} (h : TopicAt w g p l) {n : Nat} {e o : Int} (hn : l[n]? = some (e, o)) (o' : Int) :
    TopicAt (w.setCell ⟨p, n * 2 + 1, none⟩ (.int .i64 o')) g p (l.set n (e, o')) ∧ Tide.Chg (· = p) w (w.setCell ⟨p, n * 2 + 1, none⟩ (.int .i64 o')) := by
  refine ⟨⟨?_, ?_, by simpa using h.small⟩, (Tide.Chg.refl (· = p) w).put (p := ⟨p, n * 2 + 1, none⟩) (.inl rfl) _⟩
  · have := h.head.other (p := ⟨p, n * 2 + 1, none⟩) h.apart (.int .i64 o')
    rw [List.length_set]; exact this
  · have := h.parts.put (n * 2 + 1) (.int .i64 o')
    rw [← partCells_set2 l n e o o' hn]
    simpa using this
theorem TopicAt.chg {S : Nat → Prop} {w w' : World} {g p : Nat} {l : List (Int × Int)} (h : TopicAt w g p l) (hc : Tide.Chg S w w') (hg : ¬ S g) (hp : ¬ S p) : TopicAt w' g p l :=
  ⟨h.head.chg hc hg, h.parts.chg hc hp, h.small⟩
set_option maxHeartbeats 400000 in
theorem topMake_none (g p : Nat) (l : List (Int × Int)) (n k : Int) (w : World) (ht : TopicAt w g p l) (h : n < 0 ∨ (l.length : Int) ≤ n) :
    Calls Tryz.prog 31 #[.pointer (some ⟨g, 0, none⟩), .int .i64 n, .int .i64 k] w fun e w' => e = .returned (.int .i64 4) ∧ w = w' := by
  have hc : w.cell? ⟨g, 0, none⟩ = some (.slice (some ⟨p, 0, none⟩) l.length l.length) := ht.head.here rfl
  by_cases h0 : n < 0
  · clear h
    go_enter Tryz.func31, Tryz.ntmps31
    go_wp2
    go_ret
    exact ⟨rfl, rfl⟩
  · have h1 : (l.length : Int) ≤ n := by omega
    clear h
    go_enter Tryz.func31, Tryz.ntmps31
    go_wp2
    go_ret
    exact ⟨rfl, rfl⟩
set_option maxRecDepth 100000 in
set_option maxHeartbeats 400000 in
theorem topMake_yes (g p : Nat) (l : List (Int × Int)) (n : Nat) (k e o : Int) (w : World) (ht : TopicAt w g p l) (hn : l[n]? = some (e, o)) (k0 : 1 ≤ k) (k1 : k ≤ 100000) :
    Calls Tryz.prog 31 #[.pointer (some ⟨g, 0, none⟩), .int .i64 n, .int .i64 k] w fun en w' => en = .returned (.int .i64 0) ∧ TopicAt w' g p (l.set n (Tide.addc e k, o)) ∧ Tide.Chg (· = p) w w' := by
  have hc : w.cell? ⟨g, 0, none⟩ = some (.slice (some ⟨p, 0, none⟩) l.length l.length) := ht.head.here rfl
  have hlt : n < l.length := by
    rcases Nat.lt_or_ge n l.length with h | h
    · exact h
    · rw [List.getElem?_eq_none h] at hn; cases hn
  have hs := ht.small
  have hp : w.cell? ⟨p, n * 2, none⟩ = some (.int .i64 e) := ht.parts.here (by simpa using (partCells_get0 l n e o hn).1)
  have hf : w.frozen? ⟨p, n * 2, none⟩ = false := ht.parts.soft _
  have HT := Lib.hid ht; have HN := Lib.hid hn
  clear ht hn
  go_enter Tryz.func31, Tryz.ntmps31
  go_wp2_with fail
  go_region_with (go_at_call 65; refine (numAdd _ _ _).mono ?_; rintro e w' ⟨rfl, rfl⟩)
  all_goals
    go_wp2
    go_ret
    exact ⟨rfl, HT.out.put1 HN.out _⟩
set_option maxHeartbeats 400000 in
theorem topMake_arg (g p : Nat) (l : List (Int × Int)) (n k : Int) (w : World) (ht : TopicAt w g p l) (n0 : 0 ≤ n) (n1 : n < (l.length : Int)) (h : k < 1 ∨ 100000 < k) :
    Calls Tryz.prog 31 #[.pointer (some ⟨g, 0, none⟩), .int .i64 n, .int .i64 k] w fun e w' => e = .returned (.int .i64 1) ∧ w = w' := by
  have hc : w.cell? ⟨g, 0, none⟩ = some (.slice (some ⟨p, 0, none⟩) l.length l.length) := ht.head.here rfl
  by_cases h0 : k < 1
  · clear h
    go_enter Tryz.func31, Tryz.ntmps31
    go_wp2
    go_ret
    exact ⟨rfl, rfl⟩
  · have h1 : 100000 < k := by omega
    have h2 : 1 ≤ k := by omega
    clear h h0
    go_enter Tryz.func31, Tryz.ntmps31
    go_wp2
    go_ret
    exact ⟨rfl, rfl⟩
set_option maxHeartbeats 400000 in
theorem topTake_none (g p : Nat) (l : List (Int × Int)) (n k : Int) (w : World) (ht : TopicAt w g p l) (h : n < 0 ∨ (l.length : Int) ≤ n) :
    Calls Tryz.prog 32 #[.pointer (some ⟨g, 0, none⟩), .int .i64 n, .int .i64 k] w fun e w' => e = .returned (.int .i64 4) ∧ w = w' := by
  have hc : w.cell? ⟨g, 0, none⟩ = some (.slice (some ⟨p, 0, none⟩) l.length l.length) := ht.head.here rfl
  by_cases h0 : n < 0
  · clear h
    go_enter Tryz.func32, Tryz.ntmps32
    go_wp2
    go_ret
    exact ⟨rfl, rfl⟩
  · have h1 : (l.length : Int) ≤ n := by omega
    clear h
    go_enter Tryz.func32, Tryz.ntmps32
    go_wp2
    go_ret
    exact ⟨rfl, rfl⟩
set_option maxHeartbeats 400000 in
theorem topTake_yes (g p : Nat) (l : List (Int × Int)) (n : Nat) (k e o : Int) (w : World) (ht : TopicAt w g p l) (hn : l[n]? = some (e, o)) (k0 : o ≤ k) (k1 : k ≤ e) :
    Calls Tryz.prog 32 #[.pointer (some ⟨g, 0, none⟩), .int .i64 n, .int .i64 k] w fun en w' => en = .returned (.int .i64 0) ∧ TopicAt w' g p (l.set n (e, k)) ∧ Tide.Chg (· = p) w w' := by
  have hc : w.cell? ⟨g, 0, none⟩ = some (.slice (some ⟨p, 0, none⟩) l.length l.length) := ht.head.here rfl
  have hlt : n < l.length := by
    rcases Nat.lt_or_ge n l.length with h | h
    · exact h
    · rw [List.getElem?_eq_none h] at hn; cases hn
  have hs := ht.small
  have hp : w.cell? ⟨p, n * 2, none⟩ = some (.int .i64 e) := ht.parts.here (by simpa using (partCells_get0 l n e o hn).1)
  have hp' : w.cell? ⟨p, n * 2 + 1, none⟩ = some (.int .i64 o) := ht.parts.here (by simpa using (partCells_get0 l n e o hn).2)
  have hf : w.frozen? ⟨p, n * 2 + 1, none⟩ = false := ht.parts.soft _
  have HT := Lib.hid ht; have HN := Lib.hid hn
  clear ht hn
  go_enter Tryz.func32, Tryz.ntmps32
  go_wp2_with fail
  go_ret
  exact ⟨rfl, HT.out.put2 HN.out _⟩
set_option maxHeartbeats 400000 in
theorem topTake_arg (g p : Nat) (l : List (Int × Int)) (n : Nat) (k e o : Int) (w : World) (ht : TopicAt w g p l) (hn : l[n]? = some (e, o)) (h : k < o ∨ e < k) :
    Calls Tryz.prog 32 #[.pointer (some ⟨g, 0, none⟩), .int .i64 n, .int .i64 k] w fun en w' => en = .returned (.int .i64 1) ∧ w = w' := by
  have hc : w.cell? ⟨g, 0, none⟩ = some (.slice (some ⟨p, 0, none⟩) l.length l.length) := ht.head.here rfl
  have hlt : n < l.length := by
    rcases Nat.lt_or_ge n l.length with h | h
    · exact h
    · rw [List.getElem?_eq_none h] at hn; cases hn
  have hs := ht.small
  have hp : w.cell? ⟨p, n * 2, none⟩ = some (.int .i64 e) := ht.parts.here (by simpa using (partCells_get0 l n e o hn).1)
  have hp' : w.cell? ⟨p, n * 2 + 1, none⟩ = some (.int .i64 o) := ht.parts.here (by simpa using (partCells_get0 l n e o hn).2)
  clear ht hn
  by_cases h0 : k < o
  · clear h
    go_enter Tryz.func32, Tryz.ntmps32
    go_wp2_with fail
    go_ret
    exact ⟨rfl, rfl⟩
  · have h1 : e < k := by omega
    have h2 : o ≤ k := by omega
    clear h h0
    go_enter Tryz.func32, Tryz.ntmps32
    go_wp2_with fail
    go_ret
    exact ⟨rfl, rfl⟩
open Go.RowKit
theorem info_int : (Tryz.prog.info? 3).map (fun i => (i.zero, i.size, i.bytes)) = some (some (.int .i64 0), 1, 8) := by kernel_rfl
theorem info_part : (Tryz.prog.info? 140).map (fun i => (i.zero, i.size, i.bytes)) = some (some (.agg #[.int .i64 0, .int .i64 0]), 2, 16) := by kernel_rfl
def lagsOf (l : List (Int × Int)) : List Int := l.map fun p => p.1 - p.2
def OwnInts (B : Nat) (w : World) (v : Value) (xs : List Int) : Prop := w.ownsRow B 3 1 v xs.length (xs.map (Value.int .i64))
def LagsPost (w0 : World) (xs : List Int) (e : Ending) (w' : World) : Prop := ∃ v, e = .returned v ∧ OwnInts w0.heap.size w' v xs ∧ Below w0.heap.size w0 w'
def Small (l : List (Int × Int)) : Prop := ∀ p ∈ l, 0 ≤ p.2 ∧ p.2 ≤ p.1 ∧ p.1 ≤ 1000000000000000
theorem take_lags (l : List (Int × Int)) (k : Nat) (e o : Int) (h : l[k]? = some (e, o)) : lagsOf (l.take (k + 1)) = lagsOf (l.take k) ++ [e - o] := by
  unfold lagsOf
  rw [List.take_add_one, h]
  simp
theorem below_app {w wr w1 : World} {o o' : Obj} {v : Value} {xs : List Int} (hb : Below w.heap.size w wr) (ho : OwnInts w.heap.size wr v xs) (hg : ((wr.alloc o).alloc o').grownBy w1 v.ownBlock) : Below w.heap.size w w1 :=
  (((hb.alloc hb.size _).alloc (by have := hb.size; simp; omega) _)).grown hg (by have := hb.size; simp; omega) (Tide.own_ge ho)
theorem own_lags {l : List (Int × Int)} {k : Nat} {e o : Int} {B : Nat} {w : World} {v : Value} (h : l[k]? = some (e, o))
    (ho : w.ownsRow B 3 1 v ((lagsOf (l.take k)).length + 1) ((lagsOf (l.take k)).map (Value.int .i64) ++ [.int .i64 (e - o)])) : OwnInts B w v (lagsOf (l.take (k + 1))) := by
  rw [take_lags l k e o h]
  unfold OwnInts
  simpa using ho
set_option maxRecDepth 100000 in
set_option maxHeartbeats 800000 in
theorem topLags (g p : Nat) (l : List (Int × Int)) (w : World) (ht : TopicAt w g p l) (hsm : Small l) :
    Calls Tryz.prog 115 #[.pointer (some ⟨g, 0, none⟩)] w (LagsPost w (lagsOf l)) := by
  have hc : w.cell? ⟨g, 0, none⟩ = some (.slice (some ⟨p, 0, none⟩) l.length l.length) := ht.head.here rfl
  have hs := ht.small
  have hpl := ht.parts.inside
  have HT := Lib.hid ht; have HS := Lib.hid hsm
  obtain ⟨i0, hi, hz0, hz1, hz2⟩ := info_parts info_int
  clear ht hsm
  go_enter Tryz.func115, Tryz.ntmps115
  go_wp2_with fail
  go_loopw [3, 11] (fun v i wr => ∃ k : Nat, k ≤ l.length ∧ i = .int .i64 k ∧ Hid (OwnInts w.heap.size wr v (lagsOf (l.take k))) ∧ Below w.heap.size w wr) (fun _ i _ => l.length - (intOf i).toNat)
  case atStart => exact ⟨0, by omega, rfl, ⟨by simp [lagsOf], .inl ⟨rfl, by simp [lagsOf]⟩⟩, Below.refl _ _⟩
  case round =>
    obtain ⟨k, hk, rfl, hown, hbw⟩ := hrel
    by_cases hlt : k < l.length
    · obtain ⟨⟨e, o⟩, hn⟩ : ∃ q, l[k]? = some q := ⟨_, List.getElem?_eq_getElem hlt⟩
      have hmem : (e, o) ∈ l := List.mem_of_getElem? hn
      obtain ⟨o0, o1, e1⟩ := HS.out _ hmem
      simp only at o0 o1 e1
      have hp : wr.cell? ⟨p, k * 2, none⟩ = some (.int .i64 e) := (hbw.cell (p := ⟨p, k * 2, none⟩) hpl).trans (HT.out.parts.here (by simpa using (partCells_get0 l k e o hn).1))
      have hp' : wr.cell? ⟨p, k * 2 + 1, none⟩ = some (.int .i64 o) := (hbw.cell (p := ⟨p, k * 2 + 1, none⟩) hpl).trans (HT.out.parts.here (by simpa using (partCells_get0 l k e o hn).2))
      have HN := Lib.hid hn
      clear hn hmem
      have hlen : Hid ((lagsOf (l.take k)).length = k) := by show _ = _; unfold lagsOf; simp; omega
      go_wp2_with (at_builtin; refine wpList_append_own _ rfl (.tmp 15) (.tmp 21) 99 rfl w.heap.size 3 i0 (.int .i64 0) 1 8 Tryz.underlying99 hi hz0 hz1 hz2 rfl (by decide) _ _ _ rfl ((hown.out.alloc _).alloc _) ⟨wr.heap.size + 1, 0, none⟩ 1 1 [.int .i64 (e - o)] rfl rfl ?c1 ?c2 ?c3 ?c4 ?c5 ?_)
      case c1 => exact Tide.new_one (by simp)
      case c2 => simp [Value.oneCell']
      case c3 => rw [hlen.out]; simp only [maxLen]; omega
      case c4 => rw [hlen.out]; omega
      case c5 => have := hbw.size; simp; omega
      intro v' w1 hown1 hg1 _
      have hb1 := below_app hbw hown.out hg1
      have ho1 := own_lags HN.out hown1
      clear hown1 hg1 hown hbw hlen hp hp' HN
      go_wp2_with fail
      go_roundw
      case rel => exact ⟨k + 1, by omega, by go_num, ho1, hb1⟩
      case measure => simp [intOf]; omega
    · go_wp2_with fail
      go_ret
      exact ⟨_, rfl, by have := hown.out; rw [List.take_of_length_le (by omega)] at this; exact this, hbw⟩
def NewPost (w0 : World) (n : Nat) (e : Ending) (w' : World) : Prop := ∃ g p : Nat, e = .returned (.tuple #[.pointer (some ⟨g, 0, none⟩), .int .i64 0]) ∧ TopicAt w' g p (List.replicate n (0, 0)) ∧ w0.heap.size ≤ g ∧ w0.heap.size ≤ p ∧ Below w0.heap.size w0 w'
theorem partCells_zero : ∀ n : Nat, partCells (List.replicate n (0, 0)) = List.replicate (n * 2) (.int .i64 0)
  | 0 => rfl
  | n + 1 => by
    rw [List.replicate_succ, show (n + 1) * 2 = n * 2 + 1 + 1 by omega, List.replicate_succ, List.replicate_succ, ← partCells_zero n]
    rfl
theorem madeCells_two (n : Nat) : madeCells #[.int .i64 0, .int .i64 0] (n * 2) = (List.replicate (n * 2) (Value.int .i64 0)).toArray := by
  unfold madeCells
  apply Array.ext
  · simp
  · intro i h1 h2
    have hm : i % 2 = 0 ∨ i % 2 = 1 := by omega
    simp
    rcases hm with hm | hm <;> rw [hm] <;> rfl
set_option maxRecDepth 100000 in
set_option maxHeartbeats 800000 in
theorem topNew (n : Nat) (h0 : 1 ≤ n) (h1 : n ≤ 20) (w : World) :
    Calls Tryz.prog 26 #[.int .i64 n] w (NewPost w n) := by
  have hmk : ∀ W : World, (Instr.makeSlice 129 (.int .i64 (n : Int)) (.int .i64 (n : Int))).run Tryz.prog W = .ok (.slice (some ⟨W.heap.size, 0, none⟩) n n) (W.alloc (.cells (partCells (List.replicate n (0, 0))).toArray 140)) := fun W => by
    obtain ⟨i0, hi, hz0, hz1, hz2⟩ := info_parts info_part
    have := run_make (P := Tryz.prog) W 129 140 i0 _ Tryz.underlying129 hi hz0 .i64 .i64 n n (by omega) (by omega) (by rw [hz2]; omega) (by omega)
    rw [Int.toNat_natCast, hz1] at this
    rw [this, partCells_zero, ← madeCells_two]
    rfl
  have k0 : (1 : Int) ≤ n := by omega
  have k1 : (n : Int) ≤ 20 := by omega
  obtain ⟨C, hC⟩ : ∃ C, (partCells (List.replicate n (0, 0))).toArray = C := ⟨_, rfl⟩
  rw [hC] at hmk
  have HC := Lib.hid hC
  clear hC
  go_enter Tryz.func26, Tryz.ntmps26
  go_wp2_with fail
  go_ret2
  have hp : Tide.At ((w.alloc (.cells C 140)).alloc (.cells #[.slice (some ⟨w.heap.size, 0, none⟩) n n] 131)) w.heap.size 140 C := (Tide.At.made w _ C).alloc _
  have hg : Tide.At ((w.alloc (.cells C 140)).alloc (.cells #[.slice (some ⟨w.heap.size, 0, none⟩) n n] 131)) (w.heap.size + 1) 131 #[.slice (some ⟨w.heap.size, 0, none⟩) n n] := by
    have := Tide.At.made (w.alloc (.cells C 140)) 131 #[.slice (some ⟨w.heap.size, 0, none⟩) n n]
    rw [World.size_alloc] at this
    exact this
  exact ⟨w.heap.size + 1, w.heap.size, rfl, ⟨by rw [List.length_replicate]; exact hg, by rw [HC.out]; exact hp, by simpa using h1⟩, by omega, by omega, ((Below.refl _ _).alloc (Nat.le_refl _) _).alloc (by simp) _⟩
theorem topNew_no (n : Int) (h : n < 1 ∨ 20 < n) (w : World) :
    Calls Tryz.prog 26 #[.int .i64 n] w fun e w' => e = .returned (.tuple #[.pointer none, .int .i64 1]) ∧ w = w' := by
  by_cases h0 : n < 1
  · clear h
    go_enter Tryz.func26, Tryz.ntmps26
    go_wp2
    go_ret2
    exact ⟨rfl, rfl⟩
  · have h1 : 20 < n := by omega
    have h2 : 1 ≤ n := by omega
    clear h h0
    go_enter Tryz.func26, Tryz.ntmps26
    go_wp2
    go_ret2
    exact ⟨rfl, rfl⟩
end Go.Proofs.YtidonhndeohdlaaGreatDoor
