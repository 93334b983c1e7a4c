/- The contract of civil.Seconds. -/
import Derived.Test.YtfipfikinkhpmaaCivD
namespace Go.Proofs.Ytfipfikinkhpmaa
open Go.RowKit
set_option linter.unusedVariables false

/-- seconds of a date and time -/
def secOf (y m d h mi s sh : Int) : Int := Tide.dayno y m d * 86400 + h * 3600 + mi * 60 + s - 60 * sh
def okClock (h mi s sh : Int) : Prop := -900 ≤ sh ∧ sh ≤ 900 ∧ 0 ≤ h ∧ h ≤ 23 ∧ 0 ≤ mi ∧ mi ≤ 59 ∧ 0 ≤ s ∧ s ≤ 59
def okCivil (y m d h mi s sh : Int) : Prop := okDate y m d ∧ okClock h mi s sh ∧ -100000000000 ≤ secOf y m d h mi s sh ∧ secOf y m d h mi s sh ≤ 100000000000
instance (h mi s sh : Int) : Decidable (okClock h mi s sh) := by unfold okClock; infer_instance
instance (y m d h mi s sh : Int) : Decidable (okCivil y m d h mi s sh) := by unfold okCivil; infer_instance
theorem dayno_bd {y m d : Int} (h : okDate y m d) : -3000000 ≤ Tide.dayno y m d ∧ Tide.dayno y m d ≤ 3000000 := by
  obtain ⟨y0, y1, m0, m1, d0, d1⟩ := h
  have hc := Tide.cum_bd y m m0 m1
  have hl := Tide.long_hi y m
  have : (if Tide.leap y then (1 : Int) else 0) ≤ 1 := by split <;> omega
  have k := Tide.years_mono y0
  have k' := Tide.years_mono y1
  have e1 : Tide.years (-4000) = -1460970 := by decide
  have e2 : Tide.years 8000 = 2921940 := by decide
  have e3 := Tide.years_1970
  unfold Tide.dayno
  omega

set_option maxHeartbeats 1600000 in
theorem civSeconds_no (y m d h mi s wk sh : Int) (w : World) (hb : ¬ okCivil y m d h mi s sh) : Calls Try.prog 28 #[.agg #[.int .i64 y, .int .i64 m, .int .i64 d, .int .i64 h, .int .i64 mi, .int .i64 s, .int .i64 wk], .int .i64 sh] w fun e w' =>
    e = .returned (.tuple #[.int .i64 0, .int .i64 1]) ∧ Below w.heap.size w w' := by
  by_cases hd : okDate y m d
  · obtain ⟨n0, n1⟩ := dayno_bd hd
    by_cases hk : okClock h mi s sh
    · have hs : secOf y m d h mi s sh < -100000000000 ∨ (-100000000000 ≤ secOf y m d h mi s sh ∧ 100000000000 < secOf y m d h mi s sh) := by
        by_cases hh : secOf y m d h mi s sh < -100000000000
        · exact .inl hh
        · refine .inr ⟨by omega, ?_⟩
          have : ¬ secOf y m d h mi s sh ≤ 100000000000 := fun h' => hb ⟨hd, hk, by omega, h'⟩
          omega
      unfold secOf at hs
      obtain ⟨k1, k2, k3, k4, k5, k6, k7, k8⟩ := hk
      clear hb
      rcases hs with hs | ⟨hs, hs'⟩
      all_goals
        go_enter Try.func28, Try.ntmps28
        go_wp2_with (first | (go_at_call 21; refine (civDays_yes _ _ _ _ hd).mono ?_; rintro e w' ⟨rfl, rfl⟩))
        go_ret2
        exact ⟨rfl, by go_grown⟩
    · have hc : sh < -900 ∨ (-900 ≤ sh ∧ 900 < sh) ∨ (-900 ≤ sh ∧ sh ≤ 900 ∧ h < 0) ∨ (-900 ≤ sh ∧ sh ≤ 900 ∧ 0 ≤ h ∧ 23 < h) ∨ (-900 ≤ sh ∧ sh ≤ 900 ∧ 0 ≤ h ∧ h ≤ 23 ∧ mi < 0) ∨ (-900 ≤ sh ∧ sh ≤ 900 ∧ 0 ≤ h ∧ h ≤ 23 ∧ 0 ≤ mi ∧ 59 < mi) ∨
          (-900 ≤ sh ∧ sh ≤ 900 ∧ 0 ≤ h ∧ h ≤ 23 ∧ 0 ≤ mi ∧ mi ≤ 59 ∧ s < 0) ∨ (-900 ≤ sh ∧ sh ≤ 900 ∧ 0 ≤ h ∧ h ≤ 23 ∧ 0 ≤ mi ∧ mi ≤ 59 ∧ 0 ≤ s ∧ 59 < s) := by unfold okClock at hk; omega
      clear hb hk
      rcases hc with k1 | ⟨k1, k2⟩ | ⟨k1, k2, k3⟩ | ⟨k1, k2, k3, k4⟩ | ⟨k1, k2, k3, k4, k5⟩ | ⟨k1, k2, k3, k4, k5, k6⟩ | ⟨k1, k2, k3, k4, k5, k6, k7⟩ | ⟨k1, k2, k3, k4, k5, k6, k7, k8⟩
      all_goals
        go_enter Try.func28, Try.ntmps28
        go_wp2_with (first | (go_at_call 21; refine (civDays_yes _ _ _ _ hd).mono ?_; rintro e w' ⟨rfl, rfl⟩))
        go_ret2
        exact ⟨rfl, by go_grown⟩
  · clear hb
    go_enter Try.func28, Try.ntmps28
    go_wp2_with (first | (go_at_call 21; refine (civDays_no _ _ _ _ hd).mono ?_; rintro e w' ⟨rfl, rfl⟩))
    go_ret2
    exact ⟨rfl, by go_grown⟩

set_option maxHeartbeats 1600000 in
theorem civSeconds_yes (y m d h mi s wk sh : Int) (w : World) (hb : okCivil y m d h mi s sh) : Calls Try.prog 28 #[.agg #[.int .i64 y, .int .i64 m, .int .i64 d, .int .i64 h, .int .i64 mi, .int .i64 s, .int .i64 wk], .int .i64 sh] w fun e w' =>
    e = .returned (.tuple #[.int .i64 (secOf y m d h mi s sh), .int .i64 0]) ∧ Below w.heap.size w w' := by
  obtain ⟨hd, ⟨k1, k2, k3, k4, k5, k6, k7, k8⟩, hs, hs'⟩ := hb
  obtain ⟨n0, n1⟩ := dayno_bd hd
  unfold secOf at hs hs'
  go_enter Try.func28, Try.ntmps28
  go_wp2_with (first | (go_at_call 21; refine (civDays_yes _ _ _ _ hd).mono ?_; rintro e w' ⟨rfl, rfl⟩))
  go_ret2
  exact ⟨rfl, by go_grown⟩
end Go.Proofs.Ytfipfikinkhpmaa
