/- A Civil that comes in: seven integers. -/
import Derived.Test.YthelnkoohbnjpaaDoorFrame
import Derived.Test.YthelnkoohbnjpaaDoorRows
import Derived.Handy
set_option linter.unusedVariables false
set_option linter.unusedSimpArgs false
namespace Go.Proofs.YthelnkoohbnjpaaDoor
open Go.ChangeShapes Go.WideShapes Go.ChangeAt Go.RowKit
set_option maxRecDepth 100000 in
theorem cells_int : Tryd.prog.cellsOf 3 = 1 := by kernel_rfl
set_option maxRecDepth 100000 in
theorem cells_civil : Tryd.prog.cellsOf 30 = 7 := by kernel_rfl
section
variable {H : Type} {enc : TypeId × Value → H} {w : World} {base : Nat} {spare : Nat → Bool} {held : Bool}
set_option maxRecDepth 100000 in
theorem open_civil {r : Reach} {b0 : Nat} {v : Value} {d : DataW H} {p : List MemPlace} (hv : Value.okWide Tryd.prog w r b0 30 v) (h : DataW.Trod enc Tryd.prog w base spare held 30 v d p) :
    ∃ y m d h mi s wk : Int, v = .agg #[.int .i64 y, .int .i64 m, .int .i64 d, .int .i64 h, .int .i64 mi, .int .i64 s, .int .i64 wk] := by
  obtain ⟨cs, rfl, hsz⟩ := okWide_struct Tryd.underlying30 hv
  obtain ⟨l⟩ := cs
  match l, hsz.trans cells_civil with
  | [c0, c1, c2, c3, c4, c5, c6], _ =>
    obtain ⟨fuel, hf⟩ := h
    obtain ⟨xs, n, _, hx, _, hlen, hg⟩ := DataW.trod_struct Tryd.underlying30 hf
    have one : ∀ (i : Nat) (c : Value), i < 7 → (DataW.trod enc Tryd.prog w base spare held n 3 [c] = xs[i]?) → ∃ k : Int, c = .int .i64 k := by
      intro i c hi ht
      have hs : xs[i]? = some (xs[i]'(by rw [hlen]; exact hi)) := List.getElem?_eq_getElem _
      obtain ⟨k, hc, _, _⟩ := DataW.trod_int Tryd.underlying3 (ht.trans hs)
      exact ⟨k, by simpa using hc⟩
    obtain ⟨k0, rfl⟩ := one 0 c0 (by omega) (by simpa [cells_int, Value.cells] using hg 0 _ rfl)
    obtain ⟨k1, rfl⟩ := one 1 c1 (by omega) (by simpa [cells_int, Value.cells] using hg 1 _ rfl)
    obtain ⟨k2, rfl⟩ := one 2 c2 (by omega) (by simpa [cells_int, Value.cells] using hg 2 _ rfl)
    obtain ⟨k3, rfl⟩ := one 3 c3 (by omega) (by simpa [cells_int, Value.cells] using hg 3 _ rfl)
    obtain ⟨k4, rfl⟩ := one 4 c4 (by omega) (by simpa [cells_int, Value.cells] using hg 4 _ rfl)
    obtain ⟨k5, rfl⟩ := one 5 c5 (by omega) (by simpa [cells_int, Value.cells] using hg 5 _ rfl)
    obtain ⟨k6, rfl⟩ := one 6 c6 (by omega) (by simpa [cells_int, Value.cells] using hg 6 _ rfl)
    exact ⟨k0, k1, k2, k3, k4, k5, k6, rfl⟩
end
end Go.Proofs.YthelnkoohbnjpaaDoor
