/- A cron that comes in: five sets, two bools. -/
import Derived.Test.YthelnkoohbnjpaaDoorFrame
import Derived.Test.YthelnkoohbnjpaaDoorRows
import Derived.Handy
import Derived.Test.YthelnkoohbnjpaaDoorCronK
set_option linter.unusedVariables false
set_option linter.unusedSimpArgs false
namespace Go.Proofs.YthelnkoohbnjpaaDoor
open Go.ChangeShapes Go.WideShapes Go.ChangeAt Go.RowKit
set_option maxRecDepth 100000 in
theorem cells_u64 : Tryd.prog.cellsOf 22 = 1 := by kernel_rfl
set_option maxRecDepth 100000 in
theorem cells_bool : Tryd.prog.cellsOf 4 = 1 := by kernel_rfl
set_option maxRecDepth 100000 in
theorem cells_cron : Tryd.prog.cellsOf 24 = 7 := by kernel_rfl
set_option maxRecDepth 100000 in
theorem u64_wf {k : Int} (h : (Lit.int .u64 k).wf = true) : ∃ n : Nat, k = (n : Int) ∧ n < 18446744073709551616 := by
  have h1 := bounds_u64 h
  exact ⟨k.toNat, by omega, by omega⟩
section
variable {H : Type} {enc : TypeId × Value → H} {w : World} {base : Nat} {spare : Nat → Bool} {held : Bool}
set_option maxRecDepth 100000 in
theorem open_cron {r : Reach} {b0 : Nat} {v : Value} {d : DataW H} {p : List MemPlace} (hv : Value.okWide Tryd.prog w r b0 24 v) (h : DataW.Trod enc Tryd.prog w base spare held 24 v d p) :
    ∃ c : Cr, c.fits ∧ v = .agg c.cells := by
  obtain ⟨cs, rfl, hsz⟩ := okWide_struct Tryd.underlying24 hv
  obtain ⟨l⟩ := cs
  match l, hsz.trans cells_cron with
  | [c0, c1, c2, c3, c4, c5, c6], _ =>
    obtain ⟨fuel, hf⟩ := h
    obtain ⟨xs, n, _, hx, _, hlen, hg⟩ := DataW.trod_struct Tryd.underlying24 hf
    have one : ∀ (i : Nat) (c : Value), i < 7 → (DataW.trod enc Tryd.prog w base spare held n 22 [c] = xs[i]?) → ∃ k : Nat, c = .int .u64 (k : Int) ∧ k < 18446744073709551616 := by
      intro i c hi ht
      have hs : xs[i]? = some (xs[i]'(by rw [hlen]; exact hi)) := List.getElem?_eq_getElem _
      obtain ⟨k, hc, _, wf⟩ := DataW.trod_int Tryd.underlying22 (ht.trans hs)
      obtain ⟨m, rfl, hm⟩ := u64_wf wf
      exact ⟨m, by simpa using hc, hm⟩
    have oneb : ∀ (i : Nat) (c : Value), i < 7 → (DataW.trod enc Tryd.prog w base spare held n 4 [c] = xs[i]?) → ∃ k : Bool, c = .bool k := by
      intro i c hi ht
      have hs : xs[i]? = some (xs[i]'(by rw [hlen]; exact hi)) := List.getElem?_eq_getElem _
      obtain ⟨k, hc, _⟩ := DataW.trod_bool Tryd.underlying4 (ht.trans hs)
      exact ⟨k, by simpa using hc⟩
    obtain ⟨k0, rfl, h0⟩ := one 0 c0 (by omega) (by simpa [cells_u64, Value.cells] using hg 0 _ rfl)
    obtain ⟨k1, rfl, h1⟩ := one 1 c1 (by omega) (by simpa [cells_u64, Value.cells] using hg 1 _ rfl)
    obtain ⟨k2, rfl, h2⟩ := one 2 c2 (by omega) (by simpa [cells_u64, Value.cells] using hg 2 _ rfl)
    obtain ⟨k3, rfl, h3⟩ := one 3 c3 (by omega) (by simpa [cells_u64, Value.cells] using hg 3 _ rfl)
    obtain ⟨k4, rfl, h4⟩ := one 4 c4 (by omega) (by simpa [cells_u64, Value.cells] using hg 4 _ rfl)
    obtain ⟨k5, rfl⟩ := oneb 5 c5 (by omega) (by simpa [cells_bool, Value.cells] using hg 5 _ rfl)
    obtain ⟨k6, rfl⟩ := oneb 6 c6 (by omega) (by simpa [cells_bool, Value.cells] using hg 6 _ rfl)
    exact ⟨⟨k0, k1, k2, k3, k4, k5, k6⟩, ⟨h0, h1, h2, h3, h4⟩, rfl⟩
end
end Go.Proofs.YthelnkoohbnjpaaDoor
