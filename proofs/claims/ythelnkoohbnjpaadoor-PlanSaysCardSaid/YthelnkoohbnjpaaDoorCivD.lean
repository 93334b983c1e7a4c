/- The contracts of civil.date, Of and Seconds. -/
import Derived.Test.YthelnkoohbnjpaaDoorCivC
set_option linter.unusedVariables false
set_option linter.unusedSimpArgs false
namespace Go.Proofs.YthelnkoohbnjpaaDoor
open Go.RowKit
set_option linter.unusedVariables false

/-- a date that Days takes -/
def okDate (y m d : Int) : Prop := -4000 ≤ y ∧ y ≤ 8000 ∧ Tide.valid y m d
instance (y m d : Int) : Decidable (okDate y m d) := by unfold okDate Tide.valid; infer_instance

def civZero : Value := .agg #[.int .i64 0, .int .i64 0, .int .i64 0, .int .i64 0, .int .i64 0, .int .i64 0, .int .i64 0]
/-- the date and time that Of tells -/
def civAgg (s h : Int) : Value := .agg #[.int .i64 (Tide.yrOf ((s + 60 * h) / 86400)), .int .i64 (Tide.moOf ((s + 60 * h) / 86400)), .int .i64 (Tide.dyOf ((s + 60 * h) / 86400)), .int .i64 ((s + 60 * h) % 86400 / 3600), .int .i64 ((s + 60 * h) % 86400 / 60 % 60), .int .i64 ((s + 60 * h) % 86400 % 60), .int .i64 (((s + 60 * h) / 86400 + 4) % 7)]
def okTime (s h : Int) : Prop := -100000000000 ≤ s ∧ s ≤ 100000000000 ∧ -900 ≤ h ∧ h ≤ 900
instance (s h : Int) : Decidable (okTime s h) := by unfold okTime; infer_instance

end Go.Proofs.YthelnkoohbnjpaaDoor
