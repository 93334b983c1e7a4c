/- Plain facts on the calendar: no program in sight. The contracts of package civil: what each call answers, as plain functions of numbers. The contracts of civil.date, Of and Seconds. The contract of civil.Seconds. The contracts of the reference's calendar. The contracts of the reference's Days, Date, Of and Seconds. The contracts of the reference's Of and Seconds. -/
import Derived.Test.YtcnoapogeohmkaaRows
import Derived.WalkKit
import Derived.WalkSpells
import Derived.WalkLawsBesides
import Derived.Lib.Hide
import Derived.Handy
import Derived.Test.YtcnoapogeohmkaaZNum
import Derived.Test.YtcnoapogeohmkaaZBase

set_option linter.unusedVariables false
set_option linter.unusedSimpArgs false
namespace Tide

/-- days before January 1 of a year, January 1 of year 0 being day 0 -/
def years (y : Int) : Int := 365 * y + (y + 3) / 4 - (y + 99) / 100 + (y + 399) / 400
def leap (y : Int) : Prop := y % 400 = 0 ∨ (y % 4 = 0 ∧ y % 100 ≠ 0)
instance (y : Int) : Decidable (leap y) := by unfold leap; infer_instance
def long (y m : Int) : Int := if m = 2 then (if leap y then 29 else 28) else if m = 4 ∨ m = 6 ∨ m = 9 ∨ m = 11 then 30 else 31
/-- days of the months ahead of m -/
def cum (y m : Int) : Int := (367 * m - 362) / 12 + (if m ≤ 2 then 0 else if leap y then -1 else -2)
def dayno (y m d : Int) : Int := years y - years 1970 + d - 1 + cum y m
def valid (y m d : Int) : Prop := 1 ≤ m ∧ m ≤ 12 ∧ 1 ≤ d ∧ d ≤ long y m

theorem twelve {m : Int} (h1 : 1 ≤ m) (h2 : m ≤ 12) : m = 1 ∨ m = 2 ∨ m = 3 ∨ m = 4 ∨ m = 5 ∨ m = 6 ∨ m = 7 ∨ m = 8 ∨ m = 9 ∨ m = 10 ∨ m = 11 ∨ m = 12 := by omega
theorem leap_iff (y : Int) : leap y ↔ years (y + 1) = years y + 366 := by unfold leap years; omega
theorem not_leap_iff (y : Int) : ¬ leap y ↔ years (y + 1) = years y + 365 := by unfold leap years; omega
theorem years_succ (y : Int) : years (y + 1) = years y + 365 + (if leap y then 1 else 0) := by
  split <;> rename_i h
  · have := (leap_iff y).1 h; omega
  · have := (not_leap_iff y).1 h; omega
theorem years_1970 : years 1970 = 719528 := by decide
theorem cum_one (y : Int) : cum y 1 = 0 := by unfold cum; rfl
theorem cum_succ (y m : Int) (h1 : 1 ≤ m) (h2 : m < 12) : cum y (m + 1) = cum y m + long y m := by
  unfold cum long
  by_cases hl : leap y <;> rcases twelve h1 (by omega) with rfl | rfl | rfl | rfl | rfl | rfl | rfl | rfl | rfl | rfl | rfl | rfl <;> simp [hl] <;> omega
theorem cum_year (y : Int) : cum y 12 + long y 12 = 365 + (if leap y then 1 else 0) := by
  unfold cum long; by_cases hl : leap y <;> simp [hl]
theorem long_lo (y m : Int) : 28 ≤ long y m := by unfold long; split <;> (try split) <;> omega
theorem long_hi (y m : Int) : long y m ≤ 31 := by unfold long; split <;> (try split) <;> omega
theorem cum_bd (y m : Int) (h1 : 1 ≤ m) (h2 : m ≤ 12) : 0 ≤ cum y m ∧ cum y m + long y m ≤ 365 + (if leap y then 1 else 0) := by
  unfold cum long
  by_cases hl : leap y <;> rcases twelve h1 h2 with rfl | rfl | rfl | rfl | rfl | rfl | rfl | rfl | rfl | rfl | rfl | rfl <;> simp [hl]
theorem cum_le (y a b : Int) (h1 : 1 ≤ a) (h : a < b) (h2 : b ≤ 12) : cum y a + long y a ≤ cum y b := by
  unfold cum long
  by_cases hl : leap y <;> rcases twelve h1 (show a ≤ 12 by omega) with rfl | rfl | rfl | rfl | rfl | rfl | rfl | rfl | rfl | rfl | rfl | rfl <;> simp [hl] <;> split <;> omega
theorem years_mono {a b : Int} (h : a ≤ b) : years a ≤ years b := by unfold years; omega
theorem years_le {a b : Int} (h : a < b) : years a + 365 + (if leap a then 1 else 0) ≤ years b := by
  have h1 := years_succ a; have h2 := years_mono (show a + 1 ≤ b by omega); omega

/-- the date of a day is one -/
theorem dayno_inj {y m d y' m' d' : Int} (h : valid y m d) (h' : valid y' m' d') (he : dayno y m d = dayno y' m' d') : y = y' ∧ m = m' ∧ d = d' := by
  obtain ⟨a1, a2, a3, a4⟩ := h
  obtain ⟨b1, b2, b3, b4⟩ := h'
  unfold dayno at he
  have c1 := cum_bd y m a1 a2
  have c2 := cum_bd y' m' b1 b2
  have hy : y = y' := by
    rcases Int.lt_trichotomy y y' with hl | hl | hl
    · have := years_le hl; omega
    · exact hl
    · have := years_le hl; omega
  subst hy
  have hm : m = m' := by
    rcases Int.lt_trichotomy m m' with hl | hl | hl
    · have := cum_le y m m' a1 hl b2; omega
    · exact hl
    · have := cum_le y m' m b1 hl a2; omega
  subst hm
  exact ⟨rfl, rfl, by omega⟩

/-! the date, by eras of 400 years -/
def eo (n : Int) : Int := (n + 719468) % 146097
def ye (n : Int) : Int := (eo n - eo n / 1460 + eo n / 36524 - eo n / 146096) / 365
def dd (n : Int) : Int := eo n - (365 * ye n + ye n / 4 - ye n / 100)
def mp (n : Int) : Int := (5 * dd n + 2) / 153
def dyOf (n : Int) : Int := dd n - (153 * mp n + 2) / 5 + 1
def yr0 (n : Int) : Int := ye n + (n + 719468) / 146097 * 400
def yrOf (n : Int) : Int := if 12 < mp n + 3 then yr0 n + 1 else yr0 n
def moOf (n : Int) : Int := if 12 < mp n + 3 then mp n - 9 else mp n + 3

theorem core2 (c r q2 v s : Nat) (hc : c ≤ 3) (hr : r < 36524) (hq : q2 = (24 * c + r) / 1460) (hs : s < 365) (e : 365 * v + s + q2 = r) :
    v ≤ 99 ∧ 365 * v + v / 4 ≤ r ∧ r - (365 * v + v / 4) ≤ 365 ∧ (r - (365 * v + v / 4) = 365 → v % 4 = 3 ∧ (v = 99 → c = 3)) := by
  obtain rfl | rfl | rfl | rfl : c = 0 ∨ c = 1 ∨ c = 2 ∨ c = 3 := by omega
  all_goals omega
theorem era_core (o : Nat) (h : o < 146097) :
    (o - o / 1460 + o / 36524 - o / 146096) / 365 ≤ 399 ∧
    365 * ((o - o / 1460 + o / 36524 - o / 146096) / 365) + (o - o / 1460 + o / 36524 - o / 146096) / 365 / 4 - (o - o / 1460 + o / 36524 - o / 146096) / 365 / 100 ≤ o ∧
    o - (365 * ((o - o / 1460 + o / 36524 - o / 146096) / 365) + (o - o / 1460 + o / 36524 - o / 146096) / 365 / 4 - (o - o / 1460 + o / 36524 - o / 146096) / 365 / 100) ≤ 365 ∧
    (o - (365 * ((o - o / 1460 + o / 36524 - o / 146096) / 365) + (o - o / 1460 + o / 36524 - o / 146096) / 365 / 4 - (o - o / 1460 + o / 36524 - o / 146096) / 365 / 100) = 365 →
      (((o - o / 1460 + o / 36524 - o / 146096) / 365 + 1) % 4 = 0 ∧ (((o - o / 1460 + o / 36524 - o / 146096) / 365 + 1) % 100 ≠ 0 ∨ ((o - o / 1460 + o / 36524 - o / 146096) / 365 + 1) % 400 = 0))) := by
  by_cases h4 : o = 146096
  · subst h4; decide
  · obtain ⟨c, r, hc, hr, rfl⟩ : ∃ c r, c ≤ 3 ∧ r < 36524 ∧ o = 36524 * c + r := ⟨o / 36524, o % 36524, by omega, by omega, by omega⟩
    have e1 : (36524 * c + r) / 36524 = c := by omega
    have e2 : (36524 * c + r) / 146096 = 0 := by omega
    have e3 : (36524 * c + r) / 1460 = 25 * c + (24 * c + r) / 1460 := by omega
    rw [e1, e2, e3]
    have e4 : 36524 * c + r - (25 * c + (24 * c + r) / 1460) + c - 0 = 36500 * c + (r - (24 * c + r) / 1460) := by omega
    have e5 : (36500 * c + (r - (24 * c + r) / 1460)) / 365 = 100 * c + (r - (24 * c + r) / 1460) / 365 := by omega
    rw [e4, e5]
    have k := core2 c r ((24 * c + r) / 1460) ((r - (24 * c + r) / 1460) / 365) ((r - (24 * c + r) / 1460) % 365) hc hr rfl (by omega) (by omega)
    generalize (r - (24 * c + r) / 1460) / 365 = v at *
    clear e1 e2 e3 e4 e5
    omega

/-- what an era's day is made of -/
theorem era_int (n : Int) : 0 ≤ ye n ∧ ye n ≤ 399 ∧ 0 ≤ dd n ∧ dd n ≤ 365 ∧ (dd n = 365 → leap (ye n + 1)) ∧ eo n = 365 * ye n + ye n / 4 - ye n / 100 + dd n := by
  have h0 : 0 ≤ eo n := by unfold eo; omega
  have h1 : eo n < 146097 := by unfold eo; omega
  have k := era_core (eo n).toNat (by omega)
  have hy : ye n = ((((eo n).toNat - (eo n).toNat / 1460 + (eo n).toNat / 36524 - (eo n).toNat / 146096) / 365 : Nat) : Int) := by unfold ye; omega
  have hd : dd n = eo n - (365 * ye n + ye n / 4 - ye n / 100) := rfl
  generalize ((eo n).toNat - (eo n).toNat / 1460 + (eo n).toNat / 36524 - (eo n).toNat / 146096) / 365 = v at *
  obtain ⟨k1, k2, k3, k4⟩ := k
  generalize ye n = y at *
  generalize dd n = d at *
  subst hy
  refine ⟨by omega, by omega, by omega, by omega, ?_, by omega⟩
  intro h365
  have := k4 (by omega)
  unfold leap
  omega
theorem years_era (y e : Int) : years (y + e * 400) = years y + 146097 * e := by unfold years; omega
theorem years_next (y : Int) (h0 : 0 ≤ y) (h1 : y ≤ 399) : years (y + 1) = 365 * y + y / 4 - y / 100 + 366 := by unfold years; omega

theorem mp_bd (n : Int) : 0 ≤ mp n ∧ mp n ≤ 11 := by have := era_int n; unfold mp; omega

theorem cum_mar (y m : Int) (h : 3 ≤ m) : years y + cum y m = years (y + 1) - 367 + (367 * m - 362) / 12 := by
  have := years_succ y
  unfold cum
  rw [if_neg (by omega)]
  by_cases hl : leap y
  · rw [if_pos hl] at this ⊢; omega
  · rw [if_neg hl] at this ⊢; omega
/-- THE DATE OF A DAY: its day is the day -/
theorem date_dayno (n : Int) : dayno (yrOf n) (moOf n) (dyOf n) = n := by
  obtain ⟨h1, h2, h3, h4, h5, h6⟩ := era_int n
  obtain ⟨m1, m2⟩ := mp_bd n
  have hm : mp n = (5 * dd n + 2) / 153 := rfl
  have he : n + 719468 = 146097 * ((n + 719468) / 146097) + eo n := by unfold eo; omega
  have hn := years_next (ye n) h1 h2
  unfold dayno yrOf moOf dyOf yr0
  rw [years_1970]
  generalize (n + 719468) / 146097 = E at *
  by_cases hc : 12 < mp n + 3
  · rw [if_pos hc, if_pos hc, show ye n + E * 400 + 1 = (ye n + 1) + E * 400 by omega, years_era]
    unfold cum
    rw [if_pos (by omega)]
    generalize mp n = M at *
    generalize dd n = D at *
    clear h5
    omega
  · rw [if_neg hc, if_neg hc]
    have k := cum_mar (ye n + E * 400) (mp n + 3) (by omega)
    rw [show ye n + E * 400 + 1 = (ye n + 1) + E * 400 by omega, years_era (ye n + 1)] at k
    generalize cum (ye n + E * 400) (mp n + 3) = C at *
    generalize years (ye n + E * 400) = Z at *
    generalize years (ye n + 1) = Z1 at *
    generalize mp n = M at *
    generalize dd n = D at *
    clear h5
    obtain rfl | rfl | rfl | rfl | rfl | rfl | rfl | rfl | rfl | rfl : M = 0 ∨ M = 1 ∨ M = 2 ∨ M = 3 ∨ M = 4 ∨ M = 5 ∨ M = 6 ∨ M = 7 ∨ M = 8 ∨ M = 9 := by omega
    all_goals omega

theorem leap_era (y k : Int) : leap (y + k * 400) ↔ leap y := by unfold leap; omega

theorem date_valid (n : Int) : valid (yrOf n) (moOf n) (dyOf n) := by
  obtain ⟨h1, h2, h3, h4, h5, h6⟩ := era_int n
  obtain ⟨m1, m2⟩ := mp_bd n
  have hm : mp n = (5 * dd n + 2) / 153 := rfl
  unfold valid yrOf moOf dyOf yr0 long
  by_cases hc : 12 < mp n + 3
  · rw [if_pos hc, if_pos hc]
    have e : ye n + (n + 719468) / 146097 * 400 + 1 = (ye n + 1) + (n + 719468) / 146097 * 400 := by omega
    rw [e]
    simp only [leap_era]
    by_cases hl : leap (ye n + 1)
    · simp only [hl, if_true]
      generalize mp n = M at *
      generalize dd n = D at *
      clear h5 h6 e
      obtain rfl | rfl : M = 10 ∨ M = 11 := by omega
      all_goals simp
      all_goals omega
    · have h5' : dd n ≠ 365 := fun h => hl (h5 h)
      simp only [hl, if_false]
      generalize mp n = M at *
      generalize dd n = D at *
      clear h5 h6 e
      obtain rfl | rfl : M = 10 ∨ M = 11 := by omega
      all_goals simp
      all_goals omega
  · rw [if_neg hc, if_neg hc]
    generalize mp n = M at *
    generalize dd n = D at *
    clear h5 h6
    obtain rfl | rfl | rfl | rfl | rfl | rfl | rfl | rfl | rfl | rfl : M = 0 ∨ M = 1 ∨ M = 2 ∨ M = 3 ∨ M = 4 ∨ M = 5 ∨ M = 6 ∨ M = 7 ∨ M = 8 ∨ M = 9 := by omega
    all_goals simp
    all_goals omega

/-- whoever is a date of that day is the date -/
theorem date_uniq {n y m d : Int} (h : valid y m d) (he : dayno y m d = n) : y = yrOf n ∧ m = moOf n ∧ d = dyOf n :=
  dayno_inj h (date_valid n) (by rw [he, date_dayno])

theorem yrOf_lo {n y : Int} (h : years y - years 1970 ≤ n) : y ≤ yrOf n := by
  have hv := date_valid n; have hd := date_dayno n
  obtain ⟨a1, a2, a3, a4⟩ := hv
  have c1 := cum_bd (yrOf n) (moOf n) a1 a2
  rcases Int.lt_or_le (yrOf n) y with hl | hl
  · have := years_le hl
    unfold dayno at hd
    omega
  · exact hl
theorem yrOf_hi {n y : Int} (h : n < years (y + 1) - years 1970) : yrOf n ≤ y := by
  have hv := date_valid n; have hd := date_dayno n
  obtain ⟨a1, a2, a3, a4⟩ := hv
  have c1 := cum_bd (yrOf n) (moOf n) a1 a2
  rcases Int.lt_or_le y (yrOf n) with hl | hl
  · have := years_mono (show y + 1 ≤ yrOf n by omega)
    unfold dayno at hd
    omega
  · exact hl

end Tide


namespace Go.Proofs.Ytcnoapogeohmkaa
open Go.RowKit
set_option linter.unusedVariables false

theorem ret_int2 {k k' : IntKind} {a b c d : Int} (h : a = b) (h' : c = d) : Ending.returned (.tuple #[.int k a, .int k' c]) = .returned (.tuple #[.int k b, .int k' d]) := by rw [h, h']
theorem ret_int3 {k k' k'' : IntKind} {a b c d e f : Int} (h : a = b) (h' : c = d) (h'' : e = f) : Ending.returned (.tuple #[.int k a, .int k' c, .int k'' e]) = .returned (.tuple #[.int k b, .int k' d, .int k'' f]) := by rw [h, h', h'']
theorem tmod_zero (y k : Int) : (y.tmod k == 0) = decide (y % k = 0) := by
  rw [Bool.eq_iff_iff]
  simp only [beq_iff_eq, decide_eq_true_eq]
  exact ⟨fun h => Int.emod_eq_zero_of_dvd (Int.dvd_of_tmod_eq_zero h), fun h => Int.tmod_eq_zero_of_dvd (Int.dvd_of_emod_eq_zero h)⟩

theorem tmod_zero_ne (y k : Int) : (y.tmod k != 0) = !decide (y % k = 0) := by
  rw [← tmod_zero]; rfl

set_option maxHeartbeats 400000 in
theorem civFloor (a b : Int) (w : World) (hb : 1 ≤ b) (h0 : -4000000000000000000 ≤ a) (h1 : a ≤ 4000000000000000000) : Calls Try.prog 87 #[.int .i64 a, .int .i64 b] w fun e w' => e = .returned (.int .i64 (a / b)) ∧ w = w' := by
  have h := Lib.hid (tdiv_floor a b (by omega))
  have hd := tdiv_bd a b (by omega) h0 h1
  obtain ⟨d0, d1⟩ := hd
  by_cases hm : a.tmod b < 0
  · go_enter Try.func87, Try.ntmps87
    go_wp2
    go_ret
    exact ⟨ret_int (by have := h.out; rw [if_pos hm] at this; exact this), rfl⟩
  · go_enter Try.func87, Try.ntmps87
    go_wp2
    go_ret
    exact ⟨ret_int (by have := h.out; rw [if_neg (by omega)] at this; exact this), rfl⟩

end Go.Proofs.Ytcnoapogeohmkaa


namespace Go.Proofs.Ytcnoapogeohmkaa
open Go.RowKit
set_option linter.unusedVariables false

/-- a date that Days takes -/
def okDate (y m d : Int) : Prop := -4000 ≤ y ∧ y ≤ 8000 ∧ Tide.valid y m d
instance (y m d : Int) : Decidable (okDate y m d) := by unfold okDate Tide.valid; infer_instance

set_option maxHeartbeats 1600000 in
theorem civDate (n : Int) (w : World) (n0 : -4000000 ≤ n) (n1 : n ≤ 4000000) : Calls Try.prog 88 #[.int .i64 n] w fun e w' => e = .returned (.tuple #[.int .i64 (Tide.yrOf n), .int .i64 (Tide.moOf n), .int .i64 (Tide.dyOf n)]) ∧ w = w' := by
  have ho : n + 719468 - (n + 719468) / 146097 * 146097 = Tide.eo n := by unfold Tide.eo; omega
  obtain ⟨h1, h2, h3, h4, h5, h6⟩ := Tide.era_int n
  clear h5 h6
  have o0 : 0 ≤ Tide.eo n := by unfold Tide.eo; omega
  have o1 : Tide.eo n < 146097 := by unfold Tide.eo; omega
  have hy : (Tide.eo n - Tide.eo n / 1460 + Tide.eo n / 36524 - Tide.eo n / 146096) / 365 = Tide.ye n := rfl
  have hd : Tide.eo n - (365 * Tide.ye n + Tide.ye n / 4 - Tide.ye n / 100) = Tide.dd n := rfl
  have hm : (5 * Tide.dd n + 2) / 153 = Tide.mp n := rfl
  obtain ⟨m0, m1⟩ := Tide.mp_bd n
  have hdy : Hid (Tide.dd n - (153 * Tide.mp n + 2) / 5 + 1 = Tide.dyOf n) := rfl
  by_cases hc : 12 < Tide.mp n + 3
  · have k1 : Hid (Tide.ye n + (n + 719468) / 146097 * 400 + 1 = Tide.yrOf n) := by show _ = _; unfold Tide.yrOf Tide.yr0; rw [if_pos hc]
    have k2 : Hid (Tide.mp n + 3 - 12 = Tide.moOf n) := by show _ = _; unfold Tide.moOf; rw [if_pos hc]; omega
    go_enter Try.func88, Try.ntmps88
    go_wp2_with (first | (go_at_call 87; refine (civFloor _ _ _ (by omega) (by omega) (by omega)).mono ?_; rintro e w' ⟨rfl, rfl⟩))
    go_ret3
    exact ⟨ret_int3 k1.out k2.out hdy.out, rfl⟩
  · have k1 : Hid (Tide.ye n + (n + 719468) / 146097 * 400 = Tide.yrOf n) := by show _ = _; unfold Tide.yrOf Tide.yr0; rw [if_neg hc]
    have k2 : Hid (Tide.mp n + 3 = Tide.moOf n) := by show _ = _; unfold Tide.moOf; rw [if_neg hc]
    go_enter Try.func88, Try.ntmps88
    go_wp2_with (first | (go_at_call 87; refine (civFloor _ _ _ (by omega) (by omega) (by omega)).mono ?_; rintro e w' ⟨rfl, rfl⟩))
    go_ret3
    exact ⟨ret_int3 k1.out k2.out hdy.out, rfl⟩

def civZero : Value := .agg #[.int .i64 0, .int .i64 0, .int .i64 0, .int .i64 0, .int .i64 0, .int .i64 0, .int .i64 0]
/-- the date and time that Of tells -/
def civAgg (s h : Int) : Value := .agg #[.int .i64 (Tide.yrOf ((s + 60 * h) / 86400)), .int .i64 (Tide.moOf ((s + 60 * h) / 86400)), .int .i64 (Tide.dyOf ((s + 60 * h) / 86400)), .int .i64 ((s + 60 * h) % 86400 / 3600), .int .i64 ((s + 60 * h) % 86400 / 60 % 60), .int .i64 ((s + 60 * h) % 86400 % 60), .int .i64 (((s + 60 * h) / 86400 + 4) % 7)]
def okTime (s h : Int) : Prop := -100000000000 ≤ s ∧ s ≤ 100000000000 ∧ -900 ≤ h ∧ h ≤ 900
instance (s h : Int) : Decidable (okTime s h) := by unfold okTime; infer_instance

set_option maxHeartbeats 1600000 in
theorem civOf_no (s h : Int) (w : World) (hb : ¬ okTime s h) : Calls Try.prog 84 #[.int .i64 s, .int .i64 h] w fun e w' =>
    e = .returned (.tuple #[civZero, .int .i64 1]) ∧ Below w.heap.size w w' := by
  have hc : s < -100000000000 ∨ (-100000000000 ≤ s ∧ 100000000000 < s) ∨ (-100000000000 ≤ s ∧ s ≤ 100000000000 ∧ h < -900) ∨ (-100000000000 ≤ s ∧ s ≤ 100000000000 ∧ -900 ≤ h ∧ 900 < h) := by unfold okTime at hb; omega
  clear hb
  rcases hc with hc | ⟨hc, hd⟩ | ⟨hc, hd, he⟩ | ⟨hc, hd, he, hf⟩
  all_goals
    go_enter Try.func84, Try.ntmps84
    go_wp2
    refine bodyPost_ret (v := .tuple #[.agg #[.int .i64 0, .int .i64 0, .int .i64 0, .int .i64 0, .int .i64 0, .int .i64 0, .int .i64 0], .int .i64 1]) (by simp [results, Try.results84, go_sem]) rfl ⟨rfl, ?_⟩
    go_grown

set_option maxHeartbeats 1600000 in
theorem civOf_yes (s h : Int) (w : World) (hb : okTime s h) : Calls Try.prog 84 #[.int .i64 s, .int .i64 h] w fun e w' =>
    e = .returned (.tuple #[civAgg s h, .int .i64 0]) ∧ Below w.heap.size w w' := by
  obtain ⟨b0, b1, b2, b3⟩ := hb
  have em : s + 60 * h - (s + 60 * h) / 86400 * 86400 = (s + 60 * h) % 86400 := by omega
  have ew : (s + 60 * h) / 86400 + 4 - 7 * (((s + 60 * h) / 86400 + 4) / 7) = ((s + 60 * h) / 86400 + 4) % 7 := by omega
  have y0 := Tide.yrOf_lo (n := (s + 60 * h) / 86400) (y := -4000) (by rw [Tide.years_1970]; unfold Tide.years; omega)
  have y1 := Tide.yrOf_hi (n := (s + 60 * h) / 86400) (y := 8000) (by rw [Tide.years_1970]; unfold Tide.years; omega)
  go_enter Try.func84, Try.ntmps84
  go_wp2_with (first | (go_at_call 87; refine (civFloor _ _ _ (by omega) (by omega) (by omega)).mono ?_; rintro e w' ⟨rfl, rfl⟩) | (go_at_call 88; refine (civDate _ _ (by omega) (by omega)).mono ?_; rintro e w' ⟨rfl, rfl⟩))
  refine bodyPost_ret (v := .tuple #[civAgg s h, .int .i64 0]) (by simp [results, Try.results84, go_sem, civAgg]) rfl ⟨rfl, ?_⟩
  go_grown
end Go.Proofs.Ytcnoapogeohmkaa


namespace Go.Proofs.Ytcnoapogeohmkaa
open Go.RowKit
set_option linter.unusedVariables false

/-- seconds of a date and time -/
def secOf (y m d h mi s sh : Int) : Int := Tide.dayno y m d * 86400 + h * 3600 + mi * 60 + s - 60 * sh
def okClock (h mi s sh : Int) : Prop := -900 ≤ sh ∧ sh ≤ 900 ∧ 0 ≤ h ∧ h ≤ 23 ∧ 0 ≤ mi ∧ mi ≤ 59 ∧ 0 ≤ s ∧ s ≤ 59
def okCivil (y m d h mi s sh : Int) : Prop := okDate y m d ∧ okClock h mi s sh ∧ -100000000000 ≤ secOf y m d h mi s sh ∧ secOf y m d h mi s sh ≤ 100000000000
instance (h mi s sh : Int) : Decidable (okClock h mi s sh) := by unfold okClock; infer_instance
instance (y m d h mi s sh : Int) : Decidable (okCivil y m d h mi s sh) := by unfold okCivil; infer_instance
theorem dayno_bd {y m d : Int} (h : okDate y m d) : -3000000 ≤ Tide.dayno y m d ∧ Tide.dayno y m d ≤ 3000000 := by
  obtain ⟨y0, y1, m0, m1, d0, d1⟩ := h
  have hc := Tide.cum_bd y m m0 m1
  have hl := Tide.long_hi y m
  have : (if Tide.leap y then (1 : Int) else 0) ≤ 1 := by split <;> omega
  have k := Tide.years_mono y0
  have k' := Tide.years_mono y1
  have e1 : Tide.years (-4000) = -1460970 := by decide
  have e2 : Tide.years 8000 = 2921940 := by decide
  have e3 := Tide.years_1970
  unfold Tide.dayno
  omega

end Go.Proofs.Ytcnoapogeohmkaa


namespace Go.Proofs.Ytcnoapogeohmkaa
open Go.RowKit
set_option linter.unusedVariables false

set_option maxHeartbeats 400000 in
theorem refIn_yes (n lo hi : Int) (w : World) (h0 : lo ≤ n) (h1 : n ≤ hi) : Calls Try.prog 17 #[.int .i64 n, .int .i64 lo, .int .i64 hi] w fun e w' => e = .returned (.bool true) ∧ w = w' := by
  go_enter Try.func17, Try.ntmps17
  go_wp2
  go_ret
  exact ⟨rfl, rfl⟩
set_option maxHeartbeats 400000 in
theorem refIn_no (n lo hi : Int) (w : World) (h : n < lo ∨ hi < n) : Calls Try.prog 17 #[.int .i64 n, .int .i64 lo, .int .i64 hi] w fun e w' => e = .returned (.bool false) ∧ w = w' := by
  by_cases c : n < lo
  · clear h
    go_enter Try.func17, Try.ntmps17
    go_wp2
    go_ret
    exact ⟨rfl, rfl⟩
  · have h' : hi < n := by omega
    have c' : lo ≤ n := by omega
    have c'' : decide (n ≤ hi) = false := decide_eq_false (by omega)
    clear h c
    go_enter Try.func17, Try.ntmps17
    go_wp2
    go_ret
    exact ⟨rfl, rfl⟩
def inB (n lo hi : Int) : Bool := decide (lo ≤ n) && decide (n ≤ hi)
theorem inB_yes {n lo hi : Int} (h0 : lo ≤ n) (h1 : n ≤ hi) : inB n lo hi = true := by unfold inB; simp [h0, h1]
theorem inB_no {n lo hi : Int} (h : n < lo ∨ hi < n) : inB n lo hi = false := by unfold inB; simp; omega
theorem refIn (n lo hi : Int) (w : World) : Calls Try.prog 17 #[.int .i64 n, .int .i64 lo, .int .i64 hi] w fun e w' => e = .returned (.bool (inB n lo hi)) ∧ w = w' := by
  by_cases h : lo ≤ n ∧ n ≤ hi
  · rw [inB_yes h.1 h.2]; exact refIn_yes n lo hi w h.1 h.2
  · rw [inB_no (by omega)]; exact refIn_no n lo hi w (by omega)

set_option maxHeartbeats 400000 in
theorem refLeap_yes (y : Int) (w : World) (h : Tide.leap y) : Calls Try.prog 83 #[.int .i64 y] w fun e w' => e = .returned (.bool true) ∧ w = w' := by
  by_cases h400 : y % 400 = 0
  · have k400 : (y.tmod 400 == 0) = true := by rw [tmod_zero]; simp [h400]
    clear h h400
    go_enter Try.func83, Try.ntmps83
    go_wp2
    go_ret
    exact ⟨rfl, rfl⟩
  · have k400 : (y.tmod 400 == 0) = false := by rw [tmod_zero]; simp [h400]
    have h4 : (y.tmod 4 == 0) = true := by rw [tmod_zero]; unfold Tide.leap at h; simp; omega
    have k100 : (y.tmod 100 != 0) = true := by rw [tmod_zero_ne]; unfold Tide.leap at h; simp; omega
    clear h h400
    go_enter Try.func83, Try.ntmps83
    go_wp2
    go_ret
    exact ⟨rfl, rfl⟩
set_option maxHeartbeats 400000 in
theorem refLeap_no (y : Int) (w : World) (h : ¬ Tide.leap y) : Calls Try.prog 83 #[.int .i64 y] w fun e w' => e = .returned (.bool false) ∧ w = w' := by
  have k400 : (y.tmod 400 == 0) = false := by rw [tmod_zero]; unfold Tide.leap at h; simp; omega
  by_cases h4 : y % 4 = 0
  · have k4 : (y.tmod 4 == 0) = true := by rw [tmod_zero]; simp [h4]
    have k100 : (y.tmod 100 != 0) = false := by rw [tmod_zero_ne]; unfold Tide.leap at h; simp; omega
    clear h h4
    go_enter Try.func83, Try.ntmps83
    go_wp2
    go_ret
    exact ⟨rfl, rfl⟩
  · have k4 : (y.tmod 4 == 0) = false := by rw [tmod_zero]; simp [h4]
    clear h h4
    go_enter Try.func83, Try.ntmps83
    go_wp2
    go_ret
    exact ⟨rfl, rfl⟩

set_option maxHeartbeats 1600000 in
theorem refLong (y m : Int) (w : World) (h1 : 1 ≤ m) (h2 : m ≤ 12) : Calls Try.prog 78 #[.int .i64 y, .int .i64 m] w fun e w' => e = .returned (.int .i64 (Tide.long y m)) ∧ w = w' := by
  rcases Tide.twelve h1 h2 with rfl | rfl | rfl | rfl | rfl | rfl | rfl | rfl | rfl | rfl | rfl | rfl
  · have k : Hid (Tide.long y 1 = 31) := rfl
    go_enter Try.func78, Try.ntmps78
    go_wp2
    go_ret
    exact ⟨ret_int k.out.symm, rfl⟩
  · by_cases hl : Tide.leap y
    · have k : Hid (Tide.long y 2 = 29) := by show Tide.long y 2 = 29; unfold Tide.long; simp [hl]
      go_enter Try.func78, Try.ntmps78
      go_wp2_with (go_at_call 83; refine (refLeap_yes _ _ hl).mono ?_; rintro e w' ⟨rfl, rfl⟩)
      go_ret
      exact ⟨ret_int k.out.symm, rfl⟩
    · have k : Hid (Tide.long y 2 = 28) := by show Tide.long y 2 = 28; unfold Tide.long; simp [hl]
      go_enter Try.func78, Try.ntmps78
      go_wp2_with (go_at_call 83; refine (refLeap_no _ _ hl).mono ?_; rintro e w' ⟨rfl, rfl⟩)
      go_ret
      exact ⟨ret_int k.out.symm, rfl⟩
  · have k : Hid (Tide.long y 3 = 31) := rfl
    go_enter Try.func78, Try.ntmps78
    go_wp2
    go_ret
    exact ⟨ret_int k.out.symm, rfl⟩
  · have k : Hid (Tide.long y 4 = 30) := rfl
    go_enter Try.func78, Try.ntmps78
    go_wp2
    go_ret
    exact ⟨ret_int k.out.symm, rfl⟩
  · have k : Hid (Tide.long y 5 = 31) := rfl
    go_enter Try.func78, Try.ntmps78
    go_wp2
    go_ret
    exact ⟨ret_int k.out.symm, rfl⟩
  · have k : Hid (Tide.long y 6 = 30) := rfl
    go_enter Try.func78, Try.ntmps78
    go_wp2
    go_ret
    exact ⟨ret_int k.out.symm, rfl⟩
  · have k : Hid (Tide.long y 7 = 31) := rfl
    go_enter Try.func78, Try.ntmps78
    go_wp2
    go_ret
    exact ⟨ret_int k.out.symm, rfl⟩
  · have k : Hid (Tide.long y 8 = 31) := rfl
    go_enter Try.func78, Try.ntmps78
    go_wp2
    go_ret
    exact ⟨ret_int k.out.symm, rfl⟩
  · have k : Hid (Tide.long y 9 = 30) := rfl
    go_enter Try.func78, Try.ntmps78
    go_wp2
    go_ret
    exact ⟨ret_int k.out.symm, rfl⟩
  · have k : Hid (Tide.long y 10 = 31) := rfl
    go_enter Try.func78, Try.ntmps78
    go_wp2
    go_ret
    exact ⟨ret_int k.out.symm, rfl⟩
  · have k : Hid (Tide.long y 11 = 30) := rfl
    go_enter Try.func78, Try.ntmps78
    go_wp2
    go_ret
    exact ⟨ret_int k.out.symm, rfl⟩
  · have k : Hid (Tide.long y 12 = 31) := rfl
    go_enter Try.func78, Try.ntmps78
    go_wp2
    go_ret
    exact ⟨ret_int k.out.symm, rfl⟩

def yearsAt (y i v : Int) : Prop := -8000000 ≤ v ∧ v ≤ 8000000 ∧ ((i = 0 ∧ v = 365 * y) ∨ (i = 1 ∧ v = 365 * y + (y + 3) / 4) ∨ (i = 2 ∧ v = 365 * y + (y + 3) / 4 - (y + 99) / 100) ∨ (i = 3 ∧ v = Tide.years y))
set_option maxHeartbeats 1600000 in
theorem refYears (y : Int) (w : World) (y0 : -20000 ≤ y) (y1 : y ≤ 20000) : Calls Try.prog 77 #[.int .i64 y] w fun e w' => e = .returned (.int .i64 (Tide.years y)) ∧ Below w.heap.size w w' := by
  have hst : Hid (∀ v, v = 365 * y → yearsAt y 0 v) := fun v h => by unfold yearsAt; omega
  have hn0 : Hid (∀ v x c, yearsAt y 0 v → c = (y + 3) / 4 → x = v + c → yearsAt y 1 x) := fun v x c h => by unfold yearsAt at *; omega
  have hn1 : Hid (∀ v x c, yearsAt y 1 v → c = (y + 99) / 100 → x = v - c → yearsAt y 2 x) := fun v x c h => by unfold yearsAt at *; omega
  have hn2 : Hid (∀ v x c, yearsAt y 2 v → c = (y + 399) / 400 → x = v + c → yearsAt y 3 x) := fun v x c h => by unfold yearsAt at *; have : Tide.years y = 365 * y + (y + 3) / 4 - (y + 99) / 100 + (y + 399) / 400 := rfl; omega
  rcases Int.lt_or_le 0 y with hp | hp
  · go_enter Try.func77, Try.ntmps77
    go_wp2_with fail
    go_loop [3, 13] (fun n i => ∃ v k : Int, 0 ≤ k ∧ k ≤ 3 ∧ -8000000 ≤ v ∧ v ≤ 8000000 ∧ Hid (yearsAt y k v) ∧ i = .int .i64 k ∧ n = .int .i64 v) (fun _ i => (3 - intOf i).toNat)
    case atStart => exact ⟨_, 0, by omega, by omega, by omega, by omega, hst.out _ rfl, rfl, rfl⟩
    case round =>
      obtain ⟨v, k, k0, k1, v0, v1, hv, rfl, rfl⟩ := hrel
      obtain rfl | rfl | rfl | rfl : k = 0 ∨ k = 1 ∨ k = 2 ∨ k = 3 := by omega
      · go_wp2
        go_round
        case rel =>
          have hx := hn0.out v (v + ((y - 1) / 4 + 1)) ((y - 1) / 4 + 1) hv.out (by omega) rfl
          exact ⟨_, 1, by omega, by omega, hx.1, hx.2.1, hx, by go_num, by first | rfl | go_num⟩
        case measure => simp [intOf]
      · go_wp2
        go_round
        case rel =>
          have hx := hn1.out v (v - ((y - 1) / 100 + 1)) ((y - 1) / 100 + 1) hv.out (by omega) rfl
          exact ⟨_, 2, by omega, by omega, hx.1, hx.2.1, hx, by go_num, by first | rfl | go_num⟩
        case measure => simp [intOf]
      · go_wp2
        go_round
        case rel =>
          have hx := hn2.out v (v + ((y - 1) / 400 + 1)) ((y - 1) / 400 + 1) hv.out (by omega) rfl
          exact ⟨_, 3, by omega, by omega, hx.1, hx.2.1, hx, by go_num, by first | rfl | go_num⟩
        case measure => simp [intOf]
      · go_wp2
        go_ret
        exact ⟨ret_int (by have := hv.out; unfold yearsAt at this; omega), (Below.refl _ _).alloc (Nat.le_refl _) _⟩
  · obtain ⟨z, rfl⟩ : ∃ z, y = -z := ⟨-y, by omega⟩
    have z0 : 0 ≤ z := by omega
    have z1 : z ≤ 20000 := by omega
    clear y0 y1 hp
    go_enter Try.func77, Try.ntmps77
    go_wp2_with fail
    go_loop [3, 13] (fun n i => ∃ v k : Int, 0 ≤ k ∧ k ≤ 3 ∧ -8000000 ≤ v ∧ v ≤ 8000000 ∧ Hid (yearsAt (-z) k v) ∧ i = .int .i64 k ∧ n = .int .i64 v) (fun _ i => (3 - intOf i).toNat)
    case atStart => exact ⟨_, 0, by omega, by omega, by omega, by omega, hst.out _ (by omega), rfl, rfl⟩
    case round =>
      obtain ⟨v, k, k0, k1, v0, v1, hv, rfl, rfl⟩ := hrel
      obtain rfl | rfl | rfl | rfl : k = 0 ∨ k = 1 ∨ k = 2 ∨ k = 3 := by omega
      · go_wp2
        go_round
        case rel =>
          have hx := hn0.out v (v + (-(z / 4))) (-(z / 4)) hv.out (by omega) rfl
          exact ⟨_, 1, by omega, by omega, hx.1, hx.2.1, hx, by go_num, by first | rfl | go_num⟩
        case measure => simp [intOf]
      · go_wp2
        go_round
        case rel =>
          have hx := hn1.out v (v - (-(z / 100))) (-(z / 100)) hv.out (by omega) rfl
          exact ⟨_, 2, by omega, by omega, hx.1, hx.2.1, hx, by go_num, by first | rfl | go_num⟩
        case measure => simp [intOf]
      · go_wp2
        go_round
        case rel =>
          have hx := hn2.out v (v + (-(z / 400))) (-(z / 400)) hv.out (by omega) rfl
          exact ⟨_, 3, by omega, by omega, hx.1, hx.2.1, hx, by go_num, by first | rfl | go_num⟩
        case measure => simp [intOf]
      · go_wp2
        go_ret
        exact ⟨ret_int (by have := hv.out; unfold yearsAt at this; omega), (Below.refl _ _).alloc (Nat.le_refl _) _⟩
end Go.Proofs.Ytcnoapogeohmkaa


namespace Go.Proofs.Ytcnoapogeohmkaa
open Go.RowKit
set_option linter.unusedVariables false

theorem bfold {B : Nat} {a b c : World} (h : Below B a b) (k : Below b.heap.size b c) (hB : B ≤ b.heap.size) : Below B a c := h.trans (k.mono hB)

theorem years_bd {y : Int} (h0 : -20000 ≤ y) (h1 : y ≤ 20000) : -8000000 ≤ Tide.years y ∧ Tide.years y ≤ 8000000 := by unfold Tide.years; omega

theorem above {y n : Int} (h : n < Tide.years y - Tide.years 1970) : Tide.yrOf n < y := by
  have := Tide.yrOf_hi (n := n) (y := y - 1) (by rw [show y - 1 + 1 = y by omega]; exact h)
  omega
theorem month_end {n m : Int} (h1 : 1 ≤ m) (h2 : m ≤ 12) (h : Tide.long (Tide.yrOf n) m ≤ n - (Tide.years (Tide.yrOf n) - Tide.years 1970) - Tide.cum (Tide.yrOf n) m) : m < 12 := by
  rcases Int.lt_or_le m 12 with hlt | hge
  · exact hlt
  · obtain rfl : m = 12 := by omega
    have k := Tide.cum_year (Tide.yrOf n)
    have hv := Tide.date_valid n; have hd := Tide.date_dayno n
    obtain ⟨a1, a2, a3, a4⟩ := hv
    have c1 := Tide.cum_bd (Tide.yrOf n) (Tide.moOf n) a1 a2
    unfold Tide.dayno at hd
    omega
theorem month_is {n m : Int} (h1 : 1 ≤ m) (h2 : m ≤ 12) (h0 : 0 ≤ n - (Tide.years (Tide.yrOf n) - Tide.years 1970) - Tide.cum (Tide.yrOf n) m)
    (h : n - (Tide.years (Tide.yrOf n) - Tide.years 1970) - Tide.cum (Tide.yrOf n) m < Tide.long (Tide.yrOf n) m) :
    m = Tide.moOf n ∧ n - (Tide.years (Tide.yrOf n) - Tide.years 1970) - Tide.cum (Tide.yrOf n) m + 1 = Tide.dyOf n := by
  have k := Tide.date_uniq (n := n) (y := Tide.yrOf n) (m := m) (d := n - (Tide.years (Tide.yrOf n) - Tide.years 1970) - Tide.cum (Tide.yrOf n) m + 1) ⟨h1, h2, by omega, by omega⟩ (by unfold Tide.dayno; omega)
  exact ⟨k.2.1, k.2.2⟩
theorem year_start (n : Int) : 0 ≤ n - (Tide.years (Tide.yrOf n) - Tide.years 1970) ∧ n - (Tide.years (Tide.yrOf n) - Tide.years 1970) ≤ 366 := by
  have hv := Tide.date_valid n; have hd := Tide.date_dayno n
  obtain ⟨a1, a2, a3, a4⟩ := hv
  have c1 := Tide.cum_bd (Tide.yrOf n) (Tide.moOf n) a1 a2
  have u2 : (if Tide.leap (Tide.yrOf n) then (1 : Int) else 0) ≤ 1 := by split <;> omega
  unfold Tide.dayno at hd
  omega

set_option maxHeartbeats 3200000 in
theorem refDate (n : Int) (w : World) (n0 : -4000000 ≤ n) (n1 : n ≤ 4000000) : Calls Try.prog 70 #[.int .i64 n] w fun e w' => e = .returned (.tuple #[.int .i64 (Tide.yrOf n), .int .i64 (Tide.moOf n), .int .i64 (Tide.dyOf n)]) ∧ Below w.heap.size w w' := by
  have e1 : Tide.years 1970 = 719528 := Tide.years_1970
  have r0 := Tide.yrOf_lo (n := n) (y := -13000) (by rw [e1]; unfold Tide.years; omega)
  have r1 := Tide.yrOf_hi (n := n) (y := 13000) (by rw [e1]; unfold Tide.years; omega)
  have q0 : -11000 ≤ n.tdiv 366 ∧ n.tdiv 366 ≤ 11000 := by
    rw [tdiv_eq_if]; split <;> omega
  obtain ⟨q0, q1⟩ := q0
  obtain ⟨b2, b3⟩ := years_bd (y := 1970) (by omega) (by omega)
  obtain ⟨s0, s1⟩ := year_start n
  have hlo : Hid (∀ y, Tide.years y - Tide.years 1970 ≤ n → y ≤ Tide.yrOf n) := fun y h => Tide.yrOf_lo h
  have hup : Hid (∀ y, n < Tide.years y - Tide.years 1970 → Tide.yrOf n < y) := fun y h => above h
  have hc1 : Hid (Tide.cum (Tide.yrOf n) 1 = 0) := Tide.cum_one _
  clear e1
  go_enter Try.func70, Try.ntmps70
  go_wp2_with fail
  go_loopw [2] (fun a wr => ∃ y : Int, -14000 ≤ y ∧ y ≤ 14000 ∧ a = .int .i64 y ∧ Below w.heap.size w wr) (fun a _ => (intOf a + 20000).toNat)
  case atStart => exact ⟨_, by omega, by omega, rfl, Below.refl _ _⟩
  case round =>
    obtain ⟨y, y0, y1, rfl, hbw⟩ := hrel
    obtain ⟨b0, b1⟩ := years_bd (y := y) (by omega) (by omega)
    go_wp2_with fail
    refine (refYears _ _ (by omega) (by omega)).mono ?_
    rintro e w1 ⟨rfl, hb1⟩
    go_wp2_with fail
    refine (refYears _ _ (by omega) (by omega)).mono ?_
    rintro e w2 ⟨rfl, hb2⟩
    have hb : Below w.heap.size w w2 := (hbw.trans (hb1.mono hbw.size)).trans (hb2.mono (Nat.le_trans hbw.size hb1.size))
    clear hb1 hb2 hbw
    by_cases hlt : n < Tide.years y - Tide.years 1970
    · have hu := hup.out y hlt
      go_wp2_with fail
      go_roundw
      case rel => exact ⟨y - 1, by omega, by omega, by go_num, hb⟩
      case measure => simp [intOf]; omega
    · have hl := hlo.out y (by omega)
      go_wp2_with fail
      clear hlt b0 b1
      go_loopw [2] (fun a wr => ∃ y : Int, -15000 ≤ y ∧ y ≤ Tide.yrOf n ∧ a = .int .i64 y ∧ Below w.heap.size w wr) (fun a _ => (Tide.yrOf n - intOf a).toNat)
      case atStart => exact ⟨_, by omega, hl, rfl, hb⟩
      case round =>
        clear hl y1 y0
        obtain ⟨z, z0, z1, rfl, hbw⟩ := hrel
        obtain ⟨b0, b1⟩ := years_bd (y := z + 1) (by omega) (by omega)
        go_wp2_with fail
        refine (refYears _ _ (by omega) (by omega)).mono ?_
        rintro e w3 ⟨rfl, hb3⟩
        go_wp2_with fail
        refine (refYears _ _ (by omega) (by omega)).mono ?_
        rintro e w4 ⟨rfl, hb4⟩
        have hb' : Below w.heap.size w w4 := (hbw.trans (hb3.mono hbw.size)).trans (hb4.mono (Nat.le_trans hbw.size hb3.size))
        clear hb3 hb4 hbw
        by_cases hlt : Tide.years (z + 1) - Tide.years 1970 ≤ n
        · have hu := hlo.out (z + 1) hlt
          go_wp2_with fail
          go_roundw
          case rel => exact ⟨z + 1, by omega, by omega, by go_num, hb'⟩
          case measure => simp [intOf]; omega
        · have hu := hup.out (z + 1) (by omega)
          obtain rfl : z = Tide.yrOf n := by omega
          go_wp2_with fail
          clear hlt b0 b1 z0 z1 hu
          refine (refYears _ _ (by omega) (by omega)).mono ?_
          rintro e w5 ⟨rfl, hb5⟩
          go_wp2_with fail
          refine (refYears _ _ (by omega) (by omega)).mono ?_
          rintro e w6 ⟨rfl, hb6⟩
          have hb2 : Below w.heap.size w w6 := (hb'.trans (hb5.mono hb'.size)).trans (hb6.mono (Nat.le_trans hb'.size hb5.size))
          clear hb5 hb6 hb' hb
          obtain ⟨b0, b1⟩ := years_bd (y := Tide.yrOf n) (by omega) (by omega)
          go_wp2_with fail
          go_loop [0, 3] (fun a i => ∃ m : Int, 1 ≤ m ∧ m ≤ 12 ∧ 0 ≤ n - (Tide.years (Tide.yrOf n) - Tide.years 1970) - Tide.cum (Tide.yrOf n) m ∧ i = .int .i64 m ∧ a = .int .i64 (n - (Tide.years (Tide.yrOf n) - Tide.years 1970) - Tide.cum (Tide.yrOf n) m)) (fun _ i => (12 - intOf i).toNat)
          case atStart => exact ⟨1, by omega, by omega, by rw [hc1.out]; omega, rfl, by rw [hc1.out]; go_num⟩
          case round =>
            obtain ⟨m, m0, m1, g0, rfl, rfl⟩ := hrel
            obtain ⟨u0, u1⟩ := Tide.cum_bd (Tide.yrOf n) m m0 m1
            clear u1
            have u4 := Tide.long_hi (Tide.yrOf n) m
            have u5 := Tide.long_lo (Tide.yrOf n) m
            go_wp2_with fail
            refine (refLong _ _ _ m0 m1).mono ?_
            rintro e w7 ⟨rfl, rfl⟩
            by_cases hlt : Tide.long (Tide.yrOf n) m ≤ n - (Tide.years (Tide.yrOf n) - Tide.years 1970) - Tide.cum (Tide.yrOf n) m
            · have hm := month_end m0 m1 hlt
              have hs := Lib.hid (Tide.cum_succ (Tide.yrOf n) m m0 hm)
              go_wp2_with fail
              refine (refLong _ _ _ m0 m1).mono ?_
              rintro e w7 ⟨rfl, rfl⟩
              go_wp2_with fail
              go_round
              case rel => exact ⟨m + 1, by omega, by omega, by rw [hs.out]; omega, by go_num, by rw [hs.out]; go_num⟩
              case measure => simp [intOf]; omega
            · obtain ⟨k1, k2⟩ := month_is m0 m1 g0 (by omega)
              have K1 := Lib.hid k1
              have K2 := Lib.hid k2
              clear k1 k2
              go_wp2_with fail
              go_ret3
              exact ⟨ret_int3 rfl K1.out K2.out, hb2⟩
end Go.Proofs.Ytcnoapogeohmkaa


namespace Go.Proofs.Ytcnoapogeohmkaa
open Go.RowKit
set_option linter.unusedVariables false

theorem bcell {W w1 : World} (hb : Below W.heap.size W w1) : (∀ b o, b < W.heap.size → w1.cell? ⟨b, o, none⟩ = W.cell? ⟨b, o, none⟩) ∧ (∀ b o, b < W.heap.size → w1.frozen? ⟨b, o, none⟩ = W.frozen? ⟨b, o, none⟩) :=
  ⟨fun b o h => hb.cell (p := ⟨b, o, none⟩) h, fun b o h => hb.frozen (p := ⟨b, o, none⟩) h⟩

theorem two_at {w w1 : World} {T U : TypeId} {a b : Array Value} (hb : Below ((w.alloc (.cells a T)).alloc (.cells b U)).heap.size ((w.alloc (.cells a T)).alloc (.cells b U)) w1) :
    Tide.At w1 w.heap.size T a ∧ Tide.At w1 (w.heap.size + 1) U b ∧ w.heap.size + 1 < w1.heap.size := by
  have h1 : Tide.At w1 (w.heap.size + 1) U b := by
    have := Tide.At.made (w.alloc (.cells a T)) U b
    rw [World.size_alloc] at this
    exact this.below hb (by simp)
  exact ⟨((Tide.At.made w T _).alloc _).below hb (by simp; omega), h1, by have := hb.size; simp at this; omega⟩
/-- seven integers in a block, one by one -/
theorem At7 {w : World} {g : Nat} {T : TypeId} {a b c d e f h : Value} (hA : Tide.At w g T #[a, b, c, d, e, f, h]) :
    w.cell? ⟨g, 0, none⟩ = some a ∧ w.cell? ⟨g, 1, none⟩ = some b ∧ w.cell? ⟨g, 2, none⟩ = some c ∧ w.cell? ⟨g, 3, none⟩ = some d ∧ w.cell? ⟨g, 4, none⟩ = some e ∧ w.cell? ⟨g, 5, none⟩ = some f ∧ w.cell? ⟨g, 6, none⟩ = some h ∧
    w.frozen? ⟨g, 0, none⟩ = false ∧ w.frozen? ⟨g, 1, none⟩ = false ∧ w.frozen? ⟨g, 2, none⟩ = false ∧ w.frozen? ⟨g, 3, none⟩ = false ∧ w.frozen? ⟨g, 4, none⟩ = false ∧ w.frozen? ⟨g, 5, none⟩ = false ∧ w.frozen? ⟨g, 6, none⟩ = false :=
  ⟨hA.here rfl, hA.here rfl, hA.here rfl, hA.here rfl, hA.here rfl, hA.here rfl, hA.here rfl, hA.soft _, hA.soft _, hA.soft _, hA.soft _, hA.soft _, hA.soft _, hA.soft _⟩
theorem At7_put6 {w w' : World} {g : Nat} {T : TypeId} {a b c d e f h a' b' c' d' e' f' : Value} (hA : Tide.At w g T #[a, b, c, d, e, f, h])
    (hw : (((((w.setCell ⟨g, 0, none⟩ a').setCell ⟨g, 1, none⟩ b').setCell ⟨g, 2, none⟩ c').setCell ⟨g, 3, none⟩ d').setCell ⟨g, 4, none⟩ e').setCell ⟨g, 5, none⟩ f' = w') :
    Tide.At w' g T #[a', b', c', d', e', f', h] ∧ w'.heap.size = w.heap.size ∧ ∀ B, B ≤ g → Below B w w' := by
  subst hw
  refine ⟨(((((hA.put 0 a').put 1 b').put 2 c').put 3 d').put 4 e').put 5 f', by simp, fun B hB => ?_⟩
  exact ((((((Below.refl B w).setCell hB _).setCell hB _).setCell hB _).setCell hB _).setCell hB _).setCell hB _
theorem At_put6_other {w w' : World} {g g' : Nat} {T : TypeId} {cs : Array Value} {a' b' c' d' e' f' : Value} (hA : Tide.At w g' T cs) (hne : g' ≠ g)
    (hw : (((((w.setCell ⟨g, 0, none⟩ a').setCell ⟨g, 1, none⟩ b').setCell ⟨g, 2, none⟩ c').setCell ⟨g, 3, none⟩ d').setCell ⟨g, 4, none⟩ e').setCell ⟨g, 5, none⟩ f' = w') : Tide.At w' g' T cs := by
  subst hw
  exact (((((hA.other hne _).other hne _).other hne _).other hne _).other hne _).other hne _
theorem below_two {w w1 : World} {o o' : Obj} (hb : Below ((w.alloc o).alloc o').heap.size ((w.alloc o).alloc o') w1) : Below w.heap.size w w1 :=
  (((Below.refl _ _).alloc (Nat.le_refl _) _).alloc (by simp) _).trans (hb.mono (by simp; omega))

set_option maxHeartbeats 1600000 in
theorem refOf_no (s h : Int) (w : World) (hb : ¬ okTime s h) : Calls Try.prog 51 #[.int .i64 s, .int .i64 h] w fun e w' =>
    e = .returned (.tuple #[civZero, .int .i64 1]) ∧ Below w.heap.size w w' := by
  by_cases c1 : -100000000000 ≤ s ∧ s ≤ 100000000000
  · have c2 : h < -900 ∨ 900 < h := by unfold okTime at hb; omega
    clear hb
    go_enter Try.func51, Try.ntmps51
    go_wp2_with fail
    refine (refIn_yes _ _ _ _ c1.1 c1.2).mono ?_
    rintro e w' ⟨rfl, rfl⟩
    go_wp2_with fail
    refine (refIn_no _ _ _ _ c2).mono ?_
    rintro e w' ⟨rfl, rfl⟩
    go_wp2_with fail
    refine bodyPost_ret (v := .tuple #[.agg #[.int .i64 0, .int .i64 0, .int .i64 0, .int .i64 0, .int .i64 0, .int .i64 0, .int .i64 0], .int .i64 1]) (by simp [results, Try.results51, go_sem]) rfl ⟨rfl, ?_⟩
    go_grown
  · clear hb
    go_enter Try.func51, Try.ntmps51
    go_wp2_with fail
    refine (refIn_no _ _ _ _ (by omega)).mono ?_
    rintro e w' ⟨rfl, rfl⟩
    go_wp2_with fail
    refine bodyPost_ret (v := .tuple #[.agg #[.int .i64 0, .int .i64 0, .int .i64 0, .int .i64 0, .int .i64 0, .int .i64 0, .int .i64 0], .int .i64 1]) (by simp [results, Try.results51, go_sem]) rfl ⟨rfl, ?_⟩
    go_grown

set_option maxHeartbeats 1600000 in
theorem refOf_yes (s h : Int) (w : World) (hb : okTime s h) : Calls Try.prog 51 #[.int .i64 s, .int .i64 h] w fun e w' =>
    e = .returned (.tuple #[civAgg s h, .int .i64 0]) ∧ Below w.heap.size w w' := by
  obtain ⟨b0, b1, b2, b3⟩ := hb
  obtain ⟨t, ht⟩ : ∃ t, t = s + h * 60 := ⟨_, rfl⟩
  have er : Hid (rest (s + h * 60) 86400 = t % 86400) := by show _ = _; rw [ht]; rfl
  have ew : Hid (rest (t / 86400 + 4) 7 = (t / 86400 + 4) % 7) := rfl
  have t0 : -100000054000 ≤ t := by omega
  have t1 : t ≤ 100000054000 := by omega
  have et := ht.symm
  have hag : Hid (civAgg s h = .agg #[.int .i64 (Tide.yrOf (t / 86400)), .int .i64 (Tide.moOf (t / 86400)), .int .i64 (Tide.dyOf (t / 86400)), .int .i64 (t % 86400 / 3600), .int .i64 (t % 86400 / 60 % 60), .int .i64 (t % 86400 % 60), .int .i64 ((t / 86400 + 4) % 7)]) := by
    show _ = _; unfold civAgg; rw [show s + 60 * h = t by omega]
  have eq2 : (t - t % 86400).tdiv 86400 = t / 86400 := by
    rw [tdiv_eq_if]; split <;> omega
  have eq3 : t % 86400 % 3600 / 60 = t % 86400 / 60 % 60 := by omega
  clear ht
  go_enter Try.func51, Try.ntmps51
  go_wp2_with fail
  refine (refIn_yes _ _ _ _ b0 b1).mono ?_
  rintro e w' ⟨rfl, rfl⟩
  go_wp2_with fail
  refine (refIn_yes _ _ _ _ b2 b3).mono ?_
  rintro e w' ⟨rfl, rfl⟩
  go_wp2_with fail
  refine (refRest _ _ _ (by omega) (by omega)).mono ?_
  rw [← et, er.out]
  rintro e w' ⟨rfl, rfl⟩
  go_wp2_with fail
  refine (refDate _ _ (by omega) (by omega)).mono ?_
  rintro e w1 ⟨rfl, hb1⟩
  obtain ⟨hA, hC, hz⟩ := two_at hb1
  have hbw := below_two hb1
  clear hb1
  have HA := Lib.hid hA; have HC := Lib.hid hC
  obtain ⟨k0, k1, k2, k3, k4, k5, k6, l0, l1, l2, l3, l4, l5, l6⟩ := At7 hC
  clear hA hC
  go_wp2_with fail
  refine (refRest _ _ _ (by omega) (by omega)).mono ?_
  rw [ew.out]
  rintro e w2 ⟨rfl, hw⟩
  obtain ⟨hC, hs, hb2⟩ := At7_put6 HC.out hw
  have hA := At_put6_other HA.out (by omega) hw
  have hbw2 := hbw.trans (hb2 w.heap.size (by omega))
  clear hw hb2 k0 k1 k2 k3 k4 k5 k6 l0 l1 l2 l3 l4 l5 l6
  obtain ⟨k0, k1, k2, k3, k4, k5, k6, l0, l1, l2, l3, l4, l5, l6⟩ := At7 hC
  obtain ⟨i0, i1, i2, i3, i4, i5, i6, j0, j1, j2, j3, j4, j5, j6⟩ := At7 hA
  clear hA hC hs HA HC hbw
  go_wp2_with fail
  refine bodyPost_ret (v := .tuple #[.agg #[.int .i64 (Tide.yrOf (t / 86400)), .int .i64 (Tide.moOf (t / 86400)), .int .i64 (Tide.dyOf (t / 86400)), .int .i64 (t % 86400 / 3600), .int .i64 (t % 3600 / 60), .int .i64 (t % 60), .int .i64 ((t / 86400 + 4) % 7)], .int .i64 0]) (by simp [results, Try.results51, go_sem, i0, i1, i2, i3, i4, i5, i6]) rfl ⟨?_, ?_⟩
  · rw [hag.out, show t % 86400 / 60 % 60 = t % 3600 / 60 by omega, show t % 86400 % 60 = t % 60 by omega]
  · exact (((((((hbw2.setCell (by simp) _).setCell (by simp) _).setCell (by simp) _).setCell (by simp) _).setCell (by simp) _).setCell (by simp) _).setCell (by simp) _).setCell (by simp) _
end Go.Proofs.Ytcnoapogeohmkaa
