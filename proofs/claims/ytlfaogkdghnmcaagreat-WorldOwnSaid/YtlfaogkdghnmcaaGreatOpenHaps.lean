/- A list of acts that comes in. -/
import Derived.Test.YtlfaogkdghnmcaaGreatZBase
set_option linter.unusedVariables false
set_option linter.unusedSimpArgs false
namespace Go.Proofs.YtlfaogkdghnmcaaGreat
open Go.ChangeShapes Go.WideShapes Go.ChangeAt Go.RowKit
theorem cells_hap : Tryz.prog.cellsOf 44 = 3 := by kernel_rfl
set_option maxRecDepth 100000 in
theorem open_haps {H : Type} {enc : TypeId × Value → H} {w : World} {base : Nat} {spare : Nat → Bool} {held : Bool} {r : Reach} {b0 : Nat} {v : Value} {d : DataW H} {p : List MemPlace}
    (hv : Value.okWide Tryz.prog w r b0 50 v) (h : DataW.Trod enc Tryz.prog w base spare held 50 v d p) : ∃ l, ArgRows w 3 v l :=
  open_rows Tryz.underlying50 cells_hap (by decide) (struct_ints Tryz.underlying44 (by kernel_rfl) (by intro i f hf; rcases i with _ | _ | _ | i <;> simp at hf <;> subst hf <;> rfl) cells_hap rfl) hv h
end Go.Proofs.YtlfaogkdghnmcaaGreat
