/- The contract of civil.Seconds. -/
import Derived.Test.YtikjefghpnffkaaCivD
namespace Go.Proofs.Ytikjefghpnffkaa
open Go.RowKit
set_option linter.unusedVariables false

/-- seconds of a date and time -/
def secOf (y m d h mi s sh : Int) : Int := Tide.dayno y m d * 86400 + h * 3600 + mi * 60 + s - 60 * sh
def okClock (h mi s sh : Int) : Prop := -900 ≤ sh ∧ sh ≤ 900 ∧ 0 ≤ h ∧ h ≤ 23 ∧ 0 ≤ mi ∧ mi ≤ 59 ∧ 0 ≤ s ∧ s ≤ 59
def okCivil (y m d h mi s sh : Int) : Prop := okDate y m d ∧ okClock h mi s sh ∧ -100000000000 ≤ secOf y m d h mi s sh ∧ secOf y m d h mi s sh ≤ 100000000000
instance (h mi s sh : Int) : Decidable (okClock h mi s sh) := by unfold okClock; infer_instance
instance (y m d h mi s sh : Int) : Decidable (okCivil y m d h mi s sh) := by unfold okCivil; infer_instance
theorem dayno_bd {y m d : Int} (h : okDate y m d) : -3000000 ≤ Tide.dayno y m d ∧ Tide.dayno y m d ≤ 3000000 := by
  obtain ⟨y0, y1, m0, m1, d0, d1⟩ := h
  have hc := Tide.cum_bd y m m0 m1
  have hl := Tide.long_hi y m
  have : (if Tide.leap y then (1 : Int) else 0) ≤ 1 := by split <;> omega
  have k := Tide.years_mono y0
  have k' := Tide.years_mono y1
  have e1 : Tide.years (-4000) = -1460970 := by decide
  have e2 : Tide.years 8000 = 2921940 := by decide
  have e3 := Tide.years_1970
  unfold Tide.dayno
  omega

end Go.Proofs.Ytikjefghpnffkaa
