/- The room of a plan's triggers, by the form's own reach. -/
import Derived.Test.YtlfaogkdghnmcaaGreatZOpen
import Derived.SizedLaws
set_option linter.unusedVariables false
set_option linter.unusedSimpArgs false
namespace Go.Proofs.YtlfaogkdghnmcaaGreat
open Go.ChangeShapes Go.WideShapes Go.ChangeAt Go.RowKit
theorem bytes_trig : Tryz.prog.bytesOf 37 = 120 := by kernel_rfl
set_option maxRecDepth 100000 in
theorem plan_size {H : Type} {enc : TypeId × Value → H} {w : World} {base : Nat} {spare : Nat → Bool} {held : Bool} {p : Pln} {A : Option Addr} {cap : Nat} {d : DataW H} {q : List MemPlace} {ts : List TypeId} {ds : List (DataW H)} (j : Nat)
    (h : DataW.Trod enc Tryz.prog w base spare held 29 (plnV p (.slice A p.trigs.length cap)) d q) (hz : (DataW.weightsEach Tryz.prog ts ds).all (· ≤ reachBytes) = true) (ht : ts[j]? = some 29) (hd : ds[j]? = some d) : p.trigs.length * 120 ≤ 140737488351232 := by
  obtain ⟨fuel, hf⟩ := h
  have hf2 : DataW.trod enc Tryz.prog w base spare held fuel 29 (plnC p (.slice A p.trigs.length cap)).toList = some (d, q) := by simpa [plnV, plnC, Value.cells] using hf
  obtain ⟨xs, n, _, hx, _, hlen, hg⟩ := DataW.trod_struct Tryz.underlying29 hf2
  have x11 : xs[11]? = some (xs[11]'(by rw [hlen]; decide)) := List.getElem?_eq_getElem _
  have t11 : DataW.trod enc Tryz.prog w base spare held n 27 [.slice A p.trigs.length cap] = xs[11]? := by simpa [plnC, cells_string1, rows_cells_int, cells_pace4, cells_trigs] using hg 11 _ rfl
  have hd2 : d = .agg (xs.map (·.1)) := congrArg Prod.fst hx
  have hmem : ∀ k, k ∈ (xs[11]'(by rw [hlen]; decide)).1.weights Tryz.prog 27 → k ≤ reachBytes := fun k hk => by
    have h1 : k ∈ d.weights Tryz.prog 29 := by
      rw [hd2, DataW.weights, Tryz.underlying29]
      exact DataW.weights_mem_each (j := 11) (t := 27) (d := (xs[11]'(by rw [hlen]; decide)).1) rfl (by rw [List.getElem?_map, x11]; rfl) k hk
    have h2 := List.all_eq_true.1 hz k (DataW.weights_mem_each ht hd k h1)
    simpa using h2
  rw [x11] at t11
  generalize (xs[11]'(by rw [hlen]; decide)) = y at t11 hmem
  rcases Go.Deep.open_slice Tryz.underlying27 t11 with ⟨hcs, _⟩ | ⟨a, len, c, m, _, D, Pl, hcs, hb, hl, hm, hmm, hy, hi⟩
  · injection hcs with h1 h2
    injection h1 with a1 a2 a3
    omega
  · injection hcs with h1 h2
    injection h1 with a1 a2 a3
    subst a2
    have hy1 : y.1 = _ := congrArg Prod.fst hy
    have := hmem ((p.trigs.length + (m - p.trigs.length)) * 120) (by
      rw [hy1, DataW.weights, Tryz.underlying27]
      simp only [List.length_map, List.length_range, bytes_trig]
      exact List.mem_cons_self)
    simp only [reachBytes] at this
    have h2 : p.trigs.length * 120 ≤ (p.trigs.length + (m - p.trigs.length)) * 120 := Nat.mul_le_mul_right 120 (Nat.le_add_right _ _)
    omega
end Go.Proofs.YtlfaogkdghnmcaaGreat
