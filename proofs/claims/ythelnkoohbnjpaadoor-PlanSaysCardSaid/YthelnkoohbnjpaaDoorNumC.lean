/- The contracts of package num and of its reference: what each call answers, as a plain function of numbers; the world stays as it is. -/
import Derived.Test.YthelnkoohbnjpaaDoorRows
import Derived.WalkKit
import Derived.WalkSpells
import Derived.WalkLawsBesides
import Derived.Lib.Hide
import Derived.Test.YthelnkoohbnjpaaDoorNumM
set_option linter.unusedVariables false
set_option linter.unusedSimpArgs false
namespace Go.Proofs.YthelnkoohbnjpaaDoor
open Go.RowKit
theorem ret_int {k : IntKind} {a b : Int} (h : a = b) : Ending.returned (.int k a) = .returned (.int k b) := by rw [h]







end Go.Proofs.YthelnkoohbnjpaaDoor
