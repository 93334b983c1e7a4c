/- A reading among the arguments: whether it failed, and a list of integers. -/
import Derived.Test.YtcnoapogeohmkaaOpenInts
import Derived.Test.YtcnoapogeohmkaaNeedC
set_option linter.unusedVariables false
set_option linter.unusedSimpArgs false
namespace Go.Proofs.Ytcnoapogeohmkaa
open Go.ChangeShapes Go.WideShapes Go.ChangeAt Go.RowKit
set_option linter.unusedVariables false
theorem cells_ints : Try.prog.cellsOf 27 = 1 := by kernel_rfl
set_option maxRecDepth 100000 in
theorem cells_bool1 : Try.prog.cellsOf 4 = 1 := by kernel_rfl
set_option maxRecDepth 100000 in
theorem cells_reading : Try.prog.cellsOf 40 = 2 := by kernel_rfl
section
variable {H : Type} {enc : TypeId × Value → H} {w : World} {base : Nat} {spare : Nat → Bool} {held : Bool}
set_option maxRecDepth 100000 in
/-- a list of integers, as package need reads it -/
theorem rows_nums {v : Value} {l : List (List Int)} (h : ArgRows w 1 v l) :
    ∃ (A : Option Addr) (cap : Nat) (xs : List Int), NumsIn w A xs ∧ xs.length ≤ cap ∧ cap ≤ 9223372036854775807 ∧ (∀ x ∈ xs, -9223372036854775808 ≤ x ∧ x ≤ 9223372036854775807) ∧ v = .slice A xs.length cap := by
  obtain ⟨A, cap, rfl, h1, h2, h3, h4⟩ := h
  have e : ∀ (i : Nat) (hi : i < l.length), l[i] = [l[i].headD 0] := fun i hi => by
    have := (h3 _ (List.getElem_mem hi)).1
    match l[i], this with
    | [x], _ => rfl
  refine ⟨A, cap, l.map (fun row => row.headD 0), fun h0 => ?_, by simpa using h1, by simpa [maxLen] using h2, fun x hx => ?_, by simp⟩
  · obtain ⟨b, off, e1, e2, e3⟩ := h4 (by simpa using h0)
    refine ⟨b, off, e1, e2, fun i x hx => ?_⟩
    have hi : i < l.length := by
      rcases Nat.lt_or_ge i l.length with q | q
      · exact q
      · rw [List.getElem?_eq_none (by simpa using q)] at hx; cases hx
    have hx' : x = l[i].headD 0 := by
      rw [List.getElem?_map, List.getElem?_eq_getElem hi] at hx
      simpa using hx.symm
    have := e3 i _ 0 x (List.getElem?_eq_getElem hi) (by rw [e i hi, hx']; rfl)
    simpa using this
  · obtain ⟨row, hr, rfl⟩ := List.mem_map.1 hx
    have hh := h3 row hr
    match row, hh with
    | [x], hh => exact hh.2 x (by simp)
set_option maxRecDepth 100000 in
theorem reading_list {fuel : Nat} {x : DataW H × List MemPlace} {l : List Value} (hl : l.length = 2) (hf : DataW.trod enc Try.prog w base spare held fuel 40 l = some x) :
    ∃ (failed : Bool) (A : Option Addr) (cap : Nat) (xs : List Int), NumsIn w A xs ∧ xs.length ≤ cap ∧ cap ≤ 9223372036854775807 ∧ (∀ x ∈ xs, -9223372036854775808 ≤ x ∧ x ≤ 9223372036854775807) ∧ l = [.bool failed, .slice A xs.length cap] := by
  match l, hl with
  | [c0, c1], _ =>
    obtain ⟨xs, n, _, hx, _, hlen, hg⟩ := DataW.trod_struct Try.underlying40 hf
    have s0 : xs[0]? = some (xs[0]'(by rw [hlen]; decide)) := List.getElem?_eq_getElem _
    have s1 : xs[1]? = some (xs[1]'(by rw [hlen]; decide)) := List.getElem?_eq_getElem _
    have t0 : DataW.trod enc Try.prog w base spare held n 4 [c0] = xs[0]? := by simpa [cells_bool1] using hg 0 _ rfl
    have t1 : DataW.trod enc Try.prog w base spare held n 27 [c1] = xs[1]? := by simpa [cells_bool1, cells_ints] using hg 1 _ rfl
    obtain ⟨b, hb, _⟩ := DataW.trod_bool Try.underlying4 (t0.trans s0)
    have h1 : ∃ a len cap, c1 = .slice a len cap := by
      rcases Go.Deep.open_slice Try.underlying27 (t1.trans s1) with ⟨hcs, _⟩ | ⟨a, len, cap, _, _, _, _, hcs, _⟩
      · exact ⟨none, 0, 0, by simpa using hcs⟩
      · exact ⟨some a, len, cap, by simpa using hcs⟩
    obtain ⟨rows, hr⟩ := open_intl' (d := (xs[1]'(by rw [hlen]; decide)).1) (p := (xs[1]'(by rw [hlen]; decide)).2) h1 ⟨n, by obtain ⟨a, len, cap, rfl⟩ := h1; simpa [Value.cells] using t1.trans s1⟩
    obtain ⟨A, cap, ys, q1, q2, q3, q4, q5⟩ := rows_nums hr
    have hb' : c0 = .bool b := by simpa using hb
    exact ⟨b, A, cap, ys, q1, q2, q3, q4, by rw [hb', q5]⟩
set_option maxRecDepth 100000 in
theorem open_reading {r : Reach} {b0 : Nat} {v : Value} {d : DataW H} {p : List MemPlace} (hv : Value.okWide Try.prog w r b0 40 v) (h : DataW.Trod enc Try.prog w base spare held 40 v d p) :
    ∃ (failed : Bool) (A : Option Addr) (cap : Nat) (xs : List Int), NumsIn w A xs ∧ xs.length ≤ cap ∧ cap ≤ 9223372036854775807 ∧ (∀ x ∈ xs, -9223372036854775808 ≤ x ∧ x ≤ 9223372036854775807) ∧ v = .agg #[.bool failed, .slice A xs.length cap] := by
  obtain ⟨cs, rfl, hsz⟩ := okWide_struct Try.underlying40 hv
  obtain ⟨l⟩ := cs
  obtain ⟨fuel, hf⟩ := h
  obtain ⟨failed, A, cap, xs, q1, q2, q3, q4, e⟩ := reading_list (by simpa using hsz.trans cells_reading) (by simpa [Value.cells] using hf)
  exact ⟨failed, A, cap, xs, q1, q2, q3, q4, by rw [e]⟩
end
end Go.Proofs.Ytcnoapogeohmkaa
