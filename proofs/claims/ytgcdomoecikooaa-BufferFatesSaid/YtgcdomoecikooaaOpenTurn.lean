/- A list of turns that comes in. -/
import Derived.Test.YtgcdomoecikooaaOpenRows
namespace Go.Proofs.Ytgcdomoecikooaa
open Go.ChangeShapes Go.WideShapes Go.ChangeAt Go.RowKit
theorem cells_turn : Try.prog.cellsOf 28 = 4 := by kernel_rfl
section
variable {H : Type} {enc : TypeId × Value → H} {w : World} {base : Nat} {spare : Nat → Bool} {held : Bool}
set_option maxRecDepth 100000 in
theorem open_turns {r : Reach} {b0 : Nat} {v : Value} {d : DataW H} {p : List MemPlace}
    (hv : Value.okWide Try.prog w r b0 22 v) (h : DataW.Trod enc Try.prog w base spare held 22 v d p) : ∃ l, ArgRows w 4 v l :=
  open_rows Try.underlying22 cells_turn (by decide) (struct_ints Try.underlying28 (by kernel_rfl) (by intro i f hf; rcases i with _ | _ | _ | _ | i <;> simp at hf <;> subst hf <;> rfl) cells_turn rfl) hv h
end
end Go.Proofs.Ytgcdomoecikooaa
