/- The contracts of cron.Next and cron.Last. -/
import Derived.Test.YthelnkoohbnjpaaDoorCronX
set_option linter.unusedVariables false
set_option linter.unusedSimpArgs false
namespace Go.Proofs.YthelnkoohbnjpaaDoor
open Go.RowKit
set_option linter.unusedVariables false
def Cr.seekN (c : Cr) (sec shift side : Int) : Int := if c.ok = true ∧ okTime sec shift then (c.seekO sec shift side).getD 0 else 0
def Cr.seekB (c : Cr) (sec shift side : Int) : Bool := if c.ok = true ∧ okTime sec shift then (c.seekO sec shift side).isSome else false
theorem Cr.seekV_is (c : Cr) (sec shift side : Int) : c.seekV sec shift side = .tuple #[.int .i64 (c.seekN sec shift side), .bool (c.seekB sec shift side), .int .i64 (c.seekE sec shift)] := by
  unfold Cr.seekV Cr.seekN Cr.seekB Cr.seekE
  by_cases h : c.ok = true ∧ okTime sec shift
  · rw [if_pos h, if_pos h, if_pos h, if_pos h.1, if_pos h.2]
    cases c.seekO sec shift side <;> rfl
  · rw [if_neg h, if_neg h, if_neg h]
    by_cases h1 : c.ok = true
    · rw [if_pos h1, if_neg (fun h2 => h ⟨h1, h2⟩)]
    · rw [if_neg h1]
end Go.Proofs.YthelnkoohbnjpaaDoor
