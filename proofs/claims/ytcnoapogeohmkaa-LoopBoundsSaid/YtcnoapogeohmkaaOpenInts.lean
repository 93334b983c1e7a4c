/- A list of integers that comes in. -/
import Derived.Test.YtcnoapogeohmkaaOpenRows
set_option linter.unusedVariables false
set_option linter.unusedSimpArgs false
namespace Go.Proofs.Ytcnoapogeohmkaa
open Go.ChangeShapes Go.WideShapes Go.ChangeAt Go.RowKit
set_option maxRecDepth 100000 in
theorem open_intl {H : Type} {enc : TypeId × Value → H} {w : World} {base : Nat} {spare : Nat → Bool} {held : Bool} {r : Reach} {b0 : Nat} {v : Value} {d : DataW H} {p : List MemPlace}
    (hv : Value.okWide Try.prog w r b0 27 v) (h : DataW.Trod enc Try.prog w base spare held 27 v d p) : ∃ l, ArgRows w 1 v l :=
  open_rows Try.underlying27 rows_cells_int (by decide) one_int hv h
set_option maxRecDepth 100000 in
theorem open_intl' {H : Type} {enc : TypeId × Value → H} {w : World} {base : Nat} {spare : Nat → Bool} {held : Bool} {v : Value} {d : DataW H} {p : List MemPlace}
    (h1 : ∃ a len cap, v = .slice a len cap) (h : DataW.Trod enc Try.prog w base spare held 27 v d p) : ∃ l, ArgRows w 1 v l :=
  open_rows' Try.underlying27 rows_cells_int (by decide) one_int h1 h
set_option maxRecDepth 100000 in
/-- the number of a round -/
theorem round_int {w wr : World} {A : Option Addr} {l : List (List Int)} {k : Nat} (hA : RowsAt w 1 A l) (hr : ∀ row ∈ l, row.length = 1 ∧ ∀ x ∈ row, -9223372036854775808 ≤ x ∧ x ≤ 9223372036854775807) (hb : Below w.heap.size w wr) (hk : k < l.length) :
    ∃ b off x, A = some ⟨b, off, none⟩ ∧ wr.cell? ⟨b, off + k, none⟩ = some (.int .i64 x) ∧ -9223372036854775808 ≤ x ∧ x ≤ 9223372036854775807 := by
  obtain ⟨b, off, e, hlt, hc⟩ := hA (by omega)
  have hrow : l[k]? = some l[k] := List.getElem?_eq_getElem hk
  have hlen := (hr _ (List.getElem_mem hk)).1
  have hbd := (hr _ (List.getElem_mem hk)).2
  obtain ⟨x, hx⟩ : ∃ x, l[k] = [x] := by
    match l[k], hlen with
    | [x], _ => exact ⟨x, rfl⟩
  rw [hx] at hrow hbd
  have h0 := hc k _ 0 x hrow rfl
  rw [Nat.mul_one, Nat.add_zero] at h0
  exact ⟨b, off, x, e, (hb.cell (p := ⟨b, off + k, none⟩) hlt).trans h0, (hbd x (by simp)).1, (hbd x (by simp)).2⟩
end Go.Proofs.Ytcnoapogeohmkaa
