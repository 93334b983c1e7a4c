/- A list of orders that comes in. -/
import Derived.Test.YtgcdomoecikooaaOpenRows
namespace Go.Proofs.Ytgcdomoecikooaa
open Go.ChangeShapes Go.WideShapes Go.ChangeAt Go.RowKit
theorem cells_order : Try.prog.cellsOf 61 = 2 := by kernel_rfl
section
variable {H : Type} {enc : TypeId × Value → H} {w : World} {base : Nat} {spare : Nat → Bool} {held : Bool}
set_option maxRecDepth 100000 in
theorem open_orders {r : Reach} {b0 : Nat} {v : Value} {d : DataW H} {p : List MemPlace}
    (hv : Value.okWide Try.prog w r b0 52 v) (h : DataW.Trod enc Try.prog w base spare held 52 v d p) : ∃ l, ArgRows w 2 v l :=
  open_rows Try.underlying52 cells_order (by decide) (struct_ints Try.underlying61 (by kernel_rfl) (by intro i f hf; rcases i with _ | _ | i <;> simp at hf <;> subst hf <;> rfl) cells_order rfl) hv h
end
end Go.Proofs.Ytgcdomoecikooaa
