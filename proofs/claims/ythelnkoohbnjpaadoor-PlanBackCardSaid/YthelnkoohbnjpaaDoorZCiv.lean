/- Plain facts on the calendar: no program in sight. The contracts of package civil: what each call answers, as plain functions of numbers. The contracts of civil.date, Of and Seconds. -/
import Derived.Test.YthelnkoohbnjpaaDoorRows
import Derived.WalkKit
import Derived.WalkSpells
import Derived.WalkLawsBesides
import Derived.Lib.Hide
import Derived.Handy
import Derived.Test.YthelnkoohbnjpaaDoorZNum

set_option linter.unusedVariables false
set_option linter.unusedSimpArgs false
namespace Tide

/-- days before January 1 of a year, January 1 of year 0 being day 0 -/
def years (y : Int) : Int := 365 * y + (y + 3) / 4 - (y + 99) / 100 + (y + 399) / 400
def leap (y : Int) : Prop := y % 400 = 0 ∨ (y % 4 = 0 ∧ y % 100 ≠ 0)
instance (y : Int) : Decidable (leap y) := by unfold leap; infer_instance
def long (y m : Int) : Int := if m = 2 then (if leap y then 29 else 28) else if m = 4 ∨ m = 6 ∨ m = 9 ∨ m = 11 then 30 else 31
/-- days of the months ahead of m -/
def cum (y m : Int) : Int := (367 * m - 362) / 12 + (if m ≤ 2 then 0 else if leap y then -1 else -2)
def dayno (y m d : Int) : Int := years y - years 1970 + d - 1 + cum y m
def valid (y m d : Int) : Prop := 1 ≤ m ∧ m ≤ 12 ∧ 1 ≤ d ∧ d ≤ long y m

theorem twelve {m : Int} (h1 : 1 ≤ m) (h2 : m ≤ 12) : m = 1 ∨ m = 2 ∨ m = 3 ∨ m = 4 ∨ m = 5 ∨ m = 6 ∨ m = 7 ∨ m = 8 ∨ m = 9 ∨ m = 10 ∨ m = 11 ∨ m = 12 := by omega
theorem leap_iff (y : Int) : leap y ↔ years (y + 1) = years y + 366 := by unfold leap years; omega
theorem not_leap_iff (y : Int) : ¬ leap y ↔ years (y + 1) = years y + 365 := by unfold leap years; omega
theorem years_succ (y : Int) : years (y + 1) = years y + 365 + (if leap y then 1 else 0) := by
  split <;> rename_i h
  · have := (leap_iff y).1 h; omega
  · have := (not_leap_iff y).1 h; omega
theorem years_1970 : years 1970 = 719528 := by decide
theorem cum_one (y : Int) : cum y 1 = 0 := by unfold cum; rfl
theorem cum_succ (y m : Int) (h1 : 1 ≤ m) (h2 : m < 12) : cum y (m + 1) = cum y m + long y m := by
  unfold cum long
  by_cases hl : leap y <;> rcases twelve h1 (by omega) with rfl | rfl | rfl | rfl | rfl | rfl | rfl | rfl | rfl | rfl | rfl | rfl <;> simp [hl] <;> omega
theorem cum_year (y : Int) : cum y 12 + long y 12 = 365 + (if leap y then 1 else 0) := by
  unfold cum long; by_cases hl : leap y <;> simp [hl]
theorem long_lo (y m : Int) : 28 ≤ long y m := by unfold long; split <;> (try split) <;> omega
theorem long_hi (y m : Int) : long y m ≤ 31 := by unfold long; split <;> (try split) <;> omega
theorem cum_bd (y m : Int) (h1 : 1 ≤ m) (h2 : m ≤ 12) : 0 ≤ cum y m ∧ cum y m + long y m ≤ 365 + (if leap y then 1 else 0) := by
  unfold cum long
  by_cases hl : leap y <;> rcases twelve h1 h2 with rfl | rfl | rfl | rfl | rfl | rfl | rfl | rfl | rfl | rfl | rfl | rfl <;> simp [hl]
theorem cum_le (y a b : Int) (h1 : 1 ≤ a) (h : a < b) (h2 : b ≤ 12) : cum y a + long y a ≤ cum y b := by
  unfold cum long
  by_cases hl : leap y <;> rcases twelve h1 (show a ≤ 12 by omega) with rfl | rfl | rfl | rfl | rfl | rfl | rfl | rfl | rfl | rfl | rfl | rfl <;> simp [hl] <;> split <;> omega
theorem years_mono {a b : Int} (h : a ≤ b) : years a ≤ years b := by unfold years; omega
theorem years_le {a b : Int} (h : a < b) : years a + 365 + (if leap a then 1 else 0) ≤ years b := by
  have h1 := years_succ a; have h2 := years_mono (show a + 1 ≤ b by omega); omega

/-- the date of a day is one -/
theorem dayno_inj {y m d y' m' d' : Int} (h : valid y m d) (h' : valid y' m' d') (he : dayno y m d = dayno y' m' d') : y = y' ∧ m = m' ∧ d = d' := by
  obtain ⟨a1, a2, a3, a4⟩ := h
  obtain ⟨b1, b2, b3, b4⟩ := h'
  unfold dayno at he
  have c1 := cum_bd y m a1 a2
  have c2 := cum_bd y' m' b1 b2
  have hy : y = y' := by
    rcases Int.lt_trichotomy y y' with hl | hl | hl
    · have := years_le hl; omega
    · exact hl
    · have := years_le hl; omega
  subst hy
  have hm : m = m' := by
    rcases Int.lt_trichotomy m m' with hl | hl | hl
    · have := cum_le y m m' a1 hl b2; omega
    · exact hl
    · have := cum_le y m' m b1 hl a2; omega
  subst hm
  exact ⟨rfl, rfl, by omega⟩

/-! the date, by eras of 400 years -/
def eo (n : Int) : Int := (n + 719468) % 146097
def ye (n : Int) : Int := (eo n - eo n / 1460 + eo n / 36524 - eo n / 146096) / 365
def dd (n : Int) : Int := eo n - (365 * ye n + ye n / 4 - ye n / 100)
def mp (n : Int) : Int := (5 * dd n + 2) / 153
def dyOf (n : Int) : Int := dd n - (153 * mp n + 2) / 5 + 1
def yr0 (n : Int) : Int := ye n + (n + 719468) / 146097 * 400
def yrOf (n : Int) : Int := if 12 < mp n + 3 then yr0 n + 1 else yr0 n
def moOf (n : Int) : Int := if 12 < mp n + 3 then mp n - 9 else mp n + 3

theorem core2 (c r q2 v s : Nat) (hc : c ≤ 3) (hr : r < 36524) (hq : q2 = (24 * c + r) / 1460) (hs : s < 365) (e : 365 * v + s + q2 = r) :
    v ≤ 99 ∧ 365 * v + v / 4 ≤ r ∧ r - (365 * v + v / 4) ≤ 365 ∧ (r - (365 * v + v / 4) = 365 → v % 4 = 3 ∧ (v = 99 → c = 3)) := by
  obtain rfl | rfl | rfl | rfl : c = 0 ∨ c = 1 ∨ c = 2 ∨ c = 3 := by omega
  all_goals omega
theorem era_core (o : Nat) (h : o < 146097) :
    (o - o / 1460 + o / 36524 - o / 146096) / 365 ≤ 399 ∧
    365 * ((o - o / 1460 + o / 36524 - o / 146096) / 365) + (o - o / 1460 + o / 36524 - o / 146096) / 365 / 4 - (o - o / 1460 + o / 36524 - o / 146096) / 365 / 100 ≤ o ∧
    o - (365 * ((o - o / 1460 + o / 36524 - o / 146096) / 365) + (o - o / 1460 + o / 36524 - o / 146096) / 365 / 4 - (o - o / 1460 + o / 36524 - o / 146096) / 365 / 100) ≤ 365 ∧
    (o - (365 * ((o - o / 1460 + o / 36524 - o / 146096) / 365) + (o - o / 1460 + o / 36524 - o / 146096) / 365 / 4 - (o - o / 1460 + o / 36524 - o / 146096) / 365 / 100) = 365 →
      (((o - o / 1460 + o / 36524 - o / 146096) / 365 + 1) % 4 = 0 ∧ (((o - o / 1460 + o / 36524 - o / 146096) / 365 + 1) % 100 ≠ 0 ∨ ((o - o / 1460 + o / 36524 - o / 146096) / 365 + 1) % 400 = 0))) := by
  by_cases h4 : o = 146096
  · subst h4; decide
  · obtain ⟨c, r, hc, hr, rfl⟩ : ∃ c r, c ≤ 3 ∧ r < 36524 ∧ o = 36524 * c + r := ⟨o / 36524, o % 36524, by omega, by omega, by omega⟩
    have e1 : (36524 * c + r) / 36524 = c := by omega
    have e2 : (36524 * c + r) / 146096 = 0 := by omega
    have e3 : (36524 * c + r) / 1460 = 25 * c + (24 * c + r) / 1460 := by omega
    rw [e1, e2, e3]
    have e4 : 36524 * c + r - (25 * c + (24 * c + r) / 1460) + c - 0 = 36500 * c + (r - (24 * c + r) / 1460) := by omega
    have e5 : (36500 * c + (r - (24 * c + r) / 1460)) / 365 = 100 * c + (r - (24 * c + r) / 1460) / 365 := by omega
    rw [e4, e5]
    have k := core2 c r ((24 * c + r) / 1460) ((r - (24 * c + r) / 1460) / 365) ((r - (24 * c + r) / 1460) % 365) hc hr rfl (by omega) (by omega)
    generalize (r - (24 * c + r) / 1460) / 365 = v at *
    clear e1 e2 e3 e4 e5
    omega

/-- what an era's day is made of -/
theorem era_int (n : Int) : 0 ≤ ye n ∧ ye n ≤ 399 ∧ 0 ≤ dd n ∧ dd n ≤ 365 ∧ (dd n = 365 → leap (ye n + 1)) ∧ eo n = 365 * ye n + ye n / 4 - ye n / 100 + dd n := by
  have h0 : 0 ≤ eo n := by unfold eo; omega
  have h1 : eo n < 146097 := by unfold eo; omega
  have k := era_core (eo n).toNat (by omega)
  have hy : ye n = ((((eo n).toNat - (eo n).toNat / 1460 + (eo n).toNat / 36524 - (eo n).toNat / 146096) / 365 : Nat) : Int) := by unfold ye; omega
  have hd : dd n = eo n - (365 * ye n + ye n / 4 - ye n / 100) := rfl
  generalize ((eo n).toNat - (eo n).toNat / 1460 + (eo n).toNat / 36524 - (eo n).toNat / 146096) / 365 = v at *
  obtain ⟨k1, k2, k3, k4⟩ := k
  generalize ye n = y at *
  generalize dd n = d at *
  subst hy
  refine ⟨by omega, by omega, by omega, by omega, ?_, by omega⟩
  intro h365
  have := k4 (by omega)
  unfold leap
  omega
theorem years_era (y e : Int) : years (y + e * 400) = years y + 146097 * e := by unfold years; omega
theorem years_next (y : Int) (h0 : 0 ≤ y) (h1 : y ≤ 399) : years (y + 1) = 365 * y + y / 4 - y / 100 + 366 := by unfold years; omega

theorem mp_bd (n : Int) : 0 ≤ mp n ∧ mp n ≤ 11 := by have := era_int n; unfold mp; omega

theorem cum_mar (y m : Int) (h : 3 ≤ m) : years y + cum y m = years (y + 1) - 367 + (367 * m - 362) / 12 := by
  have := years_succ y
  unfold cum
  rw [if_neg (by omega)]
  by_cases hl : leap y
  · rw [if_pos hl] at this ⊢; omega
  · rw [if_neg hl] at this ⊢; omega
/-- THE DATE OF A DAY: its day is the day -/
theorem date_dayno (n : Int) : dayno (yrOf n) (moOf n) (dyOf n) = n := by
  obtain ⟨h1, h2, h3, h4, h5, h6⟩ := era_int n
  obtain ⟨m1, m2⟩ := mp_bd n
  have hm : mp n = (5 * dd n + 2) / 153 := rfl
  have he : n + 719468 = 146097 * ((n + 719468) / 146097) + eo n := by unfold eo; omega
  have hn := years_next (ye n) h1 h2
  unfold dayno yrOf moOf dyOf yr0
  rw [years_1970]
  generalize (n + 719468) / 146097 = E at *
  by_cases hc : 12 < mp n + 3
  · rw [if_pos hc, if_pos hc, show ye n + E * 400 + 1 = (ye n + 1) + E * 400 by omega, years_era]
    unfold cum
    rw [if_pos (by omega)]
    generalize mp n = M at *
    generalize dd n = D at *
    clear h5
    omega
  · rw [if_neg hc, if_neg hc]
    have k := cum_mar (ye n + E * 400) (mp n + 3) (by omega)
    rw [show ye n + E * 400 + 1 = (ye n + 1) + E * 400 by omega, years_era (ye n + 1)] at k
    generalize cum (ye n + E * 400) (mp n + 3) = C at *
    generalize years (ye n + E * 400) = Z at *
    generalize years (ye n + 1) = Z1 at *
    generalize mp n = M at *
    generalize dd n = D at *
    clear h5
    obtain rfl | rfl | rfl | rfl | rfl | rfl | rfl | rfl | rfl | rfl : M = 0 ∨ M = 1 ∨ M = 2 ∨ M = 3 ∨ M = 4 ∨ M = 5 ∨ M = 6 ∨ M = 7 ∨ M = 8 ∨ M = 9 := by omega
    all_goals omega

theorem leap_era (y k : Int) : leap (y + k * 400) ↔ leap y := by unfold leap; omega

theorem date_valid (n : Int) : valid (yrOf n) (moOf n) (dyOf n) := by
  obtain ⟨h1, h2, h3, h4, h5, h6⟩ := era_int n
  obtain ⟨m1, m2⟩ := mp_bd n
  have hm : mp n = (5 * dd n + 2) / 153 := rfl
  unfold valid yrOf moOf dyOf yr0 long
  by_cases hc : 12 < mp n + 3
  · rw [if_pos hc, if_pos hc]
    have e : ye n + (n + 719468) / 146097 * 400 + 1 = (ye n + 1) + (n + 719468) / 146097 * 400 := by omega
    rw [e]
    simp only [leap_era]
    by_cases hl : leap (ye n + 1)
    · simp only [hl, if_true]
      generalize mp n = M at *
      generalize dd n = D at *
      clear h5 h6 e
      obtain rfl | rfl : M = 10 ∨ M = 11 := by omega
      all_goals simp
      all_goals omega
    · have h5' : dd n ≠ 365 := fun h => hl (h5 h)
      simp only [hl, if_false]
      generalize mp n = M at *
      generalize dd n = D at *
      clear h5 h6 e
      obtain rfl | rfl : M = 10 ∨ M = 11 := by omega
      all_goals simp
      all_goals omega
  · rw [if_neg hc, if_neg hc]
    generalize mp n = M at *
    generalize dd n = D at *
    clear h5 h6
    obtain rfl | rfl | rfl | rfl | rfl | rfl | rfl | rfl | rfl | rfl : M = 0 ∨ M = 1 ∨ M = 2 ∨ M = 3 ∨ M = 4 ∨ M = 5 ∨ M = 6 ∨ M = 7 ∨ M = 8 ∨ M = 9 := by omega
    all_goals simp
    all_goals omega

/-- whoever is a date of that day is the date -/
theorem date_uniq {n y m d : Int} (h : valid y m d) (he : dayno y m d = n) : y = yrOf n ∧ m = moOf n ∧ d = dyOf n :=
  dayno_inj h (date_valid n) (by rw [he, date_dayno])

theorem yrOf_lo {n y : Int} (h : years y - years 1970 ≤ n) : y ≤ yrOf n := by
  have hv := date_valid n; have hd := date_dayno n
  obtain ⟨a1, a2, a3, a4⟩ := hv
  have c1 := cum_bd (yrOf n) (moOf n) a1 a2
  rcases Int.lt_or_le (yrOf n) y with hl | hl
  · have := years_le hl
    unfold dayno at hd
    omega
  · exact hl
theorem yrOf_hi {n y : Int} (h : n < years (y + 1) - years 1970) : yrOf n ≤ y := by
  have hv := date_valid n; have hd := date_dayno n
  obtain ⟨a1, a2, a3, a4⟩ := hv
  have c1 := cum_bd (yrOf n) (moOf n) a1 a2
  rcases Int.lt_or_le y (yrOf n) with hl | hl
  · have := years_mono (show y + 1 ≤ yrOf n by omega)
    unfold dayno at hd
    omega
  · exact hl

end Tide


namespace Go.Proofs.YthelnkoohbnjpaaDoor
open Go.RowKit
set_option linter.unusedVariables false

theorem ret_int2 {k k' : IntKind} {a b c d : Int} (h : a = b) (h' : c = d) : Ending.returned (.tuple #[.int k a, .int k' c]) = .returned (.tuple #[.int k b, .int k' d]) := by rw [h, h']
theorem ret_int3 {k k' k'' : IntKind} {a b c d e f : Int} (h : a = b) (h' : c = d) (h'' : e = f) : Ending.returned (.tuple #[.int k a, .int k' c, .int k'' e]) = .returned (.tuple #[.int k b, .int k' d, .int k'' f]) := by rw [h, h', h'']
theorem tmod_zero (y k : Int) : (y.tmod k == 0) = decide (y % k = 0) := by
  rw [Bool.eq_iff_iff]
  simp only [beq_iff_eq, decide_eq_true_eq]
  exact ⟨fun h => Int.emod_eq_zero_of_dvd (Int.dvd_of_tmod_eq_zero h), fun h => Int.tmod_eq_zero_of_dvd (Int.dvd_of_emod_eq_zero h)⟩

theorem tmod_zero_ne (y k : Int) : (y.tmod k != 0) = !decide (y % k = 0) := by
  rw [← tmod_zero]; rfl

end Go.Proofs.YthelnkoohbnjpaaDoor


namespace Go.Proofs.YthelnkoohbnjpaaDoor
open Go.RowKit
set_option linter.unusedVariables false

/-- a date that Days takes -/
def okDate (y m d : Int) : Prop := -4000 ≤ y ∧ y ≤ 8000 ∧ Tide.valid y m d
instance (y m d : Int) : Decidable (okDate y m d) := by unfold okDate Tide.valid; infer_instance

def civZero : Value := .agg #[.int .i64 0, .int .i64 0, .int .i64 0, .int .i64 0, .int .i64 0, .int .i64 0, .int .i64 0]
/-- the date and time that Of tells -/
def civAgg (s h : Int) : Value := .agg #[.int .i64 (Tide.yrOf ((s + 60 * h) / 86400)), .int .i64 (Tide.moOf ((s + 60 * h) / 86400)), .int .i64 (Tide.dyOf ((s + 60 * h) / 86400)), .int .i64 ((s + 60 * h) % 86400 / 3600), .int .i64 ((s + 60 * h) % 86400 / 60 % 60), .int .i64 ((s + 60 * h) % 86400 % 60), .int .i64 (((s + 60 * h) / 86400 + 4) % 7)]
def okTime (s h : Int) : Prop := -100000000000 ≤ s ∧ s ≤ 100000000000 ∧ -900 ≤ h ∧ h ≤ 900
instance (s h : Int) : Decidable (okTime s h) := by unfold okTime; infer_instance

end Go.Proofs.YthelnkoohbnjpaaDoor
