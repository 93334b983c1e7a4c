/- A Pace that comes in: four integers; a list of wishes. -/
import Derived.Test.YtgkbdoecpbepbaaOpenRows
namespace Go.Proofs.Ytgkbdoecpbepbaa
open Go.ChangeShapes Go.WideShapes Go.ChangeAt Go.RowKit
theorem cells_pace : Try.prog.cellsOf 52 = 4 := by kernel_rfl
section
variable {H : Type} {enc : TypeId × Value → H} {w : World} {base : Nat} {spare : Nat → Bool} {held : Bool}
set_option maxRecDepth 100000 in
theorem open_pace {r : Reach} {b0 : Nat} {v : Value} {d : DataW H} {p : List MemPlace} (hv : Value.okWide Try.prog w r b0 52 v) (h : DataW.Trod enc Try.prog w base spare held 52 v d p) :
    ∃ a b c d : Int, v = .agg #[.int .i64 a, .int .i64 b, .int .i64 c, .int .i64 d] := by
  obtain ⟨cs, rfl, hsz⟩ := okWide_struct Try.underlying52 hv
  obtain ⟨l⟩ := cs
  match l, hsz.trans cells_pace with
  | [c0, c1, c2, c3], _ =>
    obtain ⟨fuel, hf⟩ := h
    obtain ⟨xs, n, _, hx, _, hlen, hg⟩ := DataW.trod_struct Try.underlying52 hf
    have one : ∀ (i : Nat) (c : Value), i < 4 → (DataW.trod enc Try.prog w base spare held n 3 [c] = xs[i]?) → ∃ k : Int, c = .int .i64 k := by
      intro i c hi ht
      have hs : xs[i]? = some (xs[i]'(by rw [hlen]; exact hi)) := List.getElem?_eq_getElem _
      obtain ⟨k, hc, _, _⟩ := DataW.trod_int Try.underlying3 (ht.trans hs)
      exact ⟨k, by simpa using hc⟩
    obtain ⟨k0, rfl⟩ := one 0 c0 (by omega) (by simpa [rows_cells_int, Value.cells] using hg 0 _ rfl)
    obtain ⟨k1, rfl⟩ := one 1 c1 (by omega) (by simpa [rows_cells_int, Value.cells] using hg 1 _ rfl)
    obtain ⟨k2, rfl⟩ := one 2 c2 (by omega) (by simpa [rows_cells_int, Value.cells] using hg 2 _ rfl)
    obtain ⟨k3, rfl⟩ := one 3 c3 (by omega) (by simpa [rows_cells_int, Value.cells] using hg 3 _ rfl)
    exact ⟨k0, k1, k2, k3, rfl⟩
theorem cells_wish : Try.prog.cellsOf 59 = 3 := by kernel_rfl
set_option maxRecDepth 100000 in
theorem open_wishes {r : Reach} {b0 : Nat} {v : Value} {d : DataW H} {p : List MemPlace}
    (hv : Value.okWide Try.prog w r b0 53 v) (h : DataW.Trod enc Try.prog w base spare held 53 v d p) : ∃ l, ArgRows w 3 v l :=
  open_rows Try.underlying53 cells_wish (by decide) (struct_ints Try.underlying59 (by kernel_rfl) (by intro i f hf; rcases i with _ | _ | _ | i <;> simp at hf <;> subst hf <;> rfl) cells_wish rfl) hv h
end
end Go.Proofs.Ytgkbdoecpbepbaa
