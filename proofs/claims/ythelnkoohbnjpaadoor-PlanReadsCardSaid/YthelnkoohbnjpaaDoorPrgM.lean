/- The lines of a text by their numbers: plain (for the reference's ReadPlan). -/
import Derived.Test.YthelnkoohbnjpaaDoorZPrd
set_option linter.unusedVariables false
set_option linter.unusedSimpArgs false
namespace Go.Proofs.YthelnkoohbnjpaaDoor
open Go.RowKit
set_option linter.unusedVariables false
/-- line i and what follows are the pieces of what is left -/
def Left (s rest : ByteArray) (i : Nat) : Prop := (Tide.piecesB 10 s).drop i = Tide.piecesB 10 rest
theorem Left.start (s : ByteArray) : Left s s 0 := List.drop_zero
theorem Left.next {s rest : ByteArray} {i : Nat} (h : Left s rest i) (hz : Tide.cutZ 10 rest = true) : Left s (Tide.cutY 10 rest) (i + 1) := by
  unfold Left at h ⊢
  rw [← List.drop_drop, h, Tide.piecesB_cut 10 rest, if_pos hz]
  rfl
theorem Left.line {s rest : ByteArray} {i : Nat} (h : Left s rest i) : (Tide.piecesB 10 s)[i]? = some (Tide.cutX 10 rest) := by
  have e : ((Tide.piecesB 10 s).drop i)[0]? = (Tide.piecesB 10 s)[i + 0]? := List.getElem?_drop
  rw [Nat.add_zero] at e
  rw [← e, h, Tide.piecesB_cut 10 rest]
  split <;> rfl
/-- is line i ended by a byte 10? -/
theorem Left.more {s rest : ByteArray} {i : Nat} (h : Left s rest i) : (Tide.cutZ 10 rest = true ∧ i + 1 < (Tide.piecesB 10 s).length) ∨ (Tide.cutZ 10 rest = false ∧ i + 1 = (Tide.piecesB 10 s).length ∧ Tide.cutX 10 rest = rest) := by
  have hl := congrArg List.length h
  rw [List.length_drop, Tide.piecesB_cut 10 rest] at hl
  cases hz : Tide.cutZ 10 rest
  · rw [hz, if_neg (by simp)] at hl
    simp only [List.length_cons, List.length_nil] at hl
    exact .inr ⟨rfl, by omega, Tide.cutX_none hz⟩
  · rw [hz, if_pos rfl] at hl
    have := Tide.piecesB_pos 10 (Tide.cutY 10 rest)
    simp only [List.length_cons] at hl
    exact .inl ⟨rfl, by omega⟩
end Go.Proofs.YthelnkoohbnjpaaDoor
