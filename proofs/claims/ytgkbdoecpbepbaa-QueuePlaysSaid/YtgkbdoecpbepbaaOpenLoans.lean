/- A list of loans that comes in. -/
import Derived.Test.YtgkbdoecpbepbaaOpenRows
namespace Go.Proofs.Ytgkbdoecpbepbaa
open Go.ChangeShapes Go.WideShapes Go.ChangeAt Go.RowKit
theorem cells_loan : Try.prog.cellsOf 71 = 3 := by kernel_rfl
set_option maxRecDepth 100000 in
theorem open_loans {H : Type} {enc : TypeId × Value → H} {w : World} {base : Nat} {spare : Nat → Bool} {held : Bool} {r : Reach} {b0 : Nat} {v : Value} {d : DataW H} {p : List MemPlace}
    (hv : Value.okWide Try.prog w r b0 66 v) (h : DataW.Trod enc Try.prog w base spare held 66 v d p) : ∃ l, ArgRows w 3 v l :=
  open_rows Try.underlying66 cells_loan (by decide) (struct_ints Try.underlying71 (by kernel_rfl) (by intro i f hf; rcases i with _ | _ | _ | i <;> simp at hf <;> subst hf <;> rfl) cells_loan rfl) hv h
end Go.Proofs.Ytgkbdoecpbepbaa
