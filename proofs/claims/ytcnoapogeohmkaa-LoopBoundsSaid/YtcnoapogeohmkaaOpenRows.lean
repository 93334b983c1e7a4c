/- A slice of rows of integers that comes in ([]int; a slice of structs whose fields are integers). -/
import Derived.Test.YtcnoapogeohmkaaFrame
import Derived.Test.YtcnoapogeohmkaaRows
import Derived.Handy
import Derived.Deep.Slices
import Derived.Deep.Fields
set_option linter.unusedVariables false
set_option linter.unusedSimpArgs false
namespace Go.Proofs.Ytcnoapogeohmkaa
open Go.ChangeShapes Go.WideShapes Go.ChangeAt Go.RowKit Go.Deep

/-- cells of rows, k to a row, from address A on (nil, where there is none) -/
def RowsAt (w : World) (k : Nat) (A : Option Addr) (l : List (List Int)) : Prop :=
  0 < l.length → ∃ b off, A = some ⟨b, off, none⟩ ∧ b < w.heap.size ∧ ∀ i row j x, l[i]? = some row → row[j]? = some x → w.cell? ⟨b, off + i * k + j, none⟩ = some (.int .i64 x)
theorem RowsAt.below {B k : Nat} {w w' : World} {A : Option Addr} {l : List (List Int)} (h : RowsAt w k A l) (hb : Below B w w') (hB : w.heap.size ≤ B) : RowsAt w' k A l := fun h0 => by
  obtain ⟨b, off, e, hlt, hc⟩ := h h0
  refine ⟨b, off, e, Nat.lt_of_lt_of_le hlt hb.size, fun i row j x h1 h2 => ?_⟩
  exact (hb.cell (p := ⟨b, off + i * k + j, none⟩) (by show b < B; omega)).trans (hc i row j x h1 h2)
/-- what is asked of an argument: its rows, each of k numbers that fit -/
def ArgRows (w : World) (k : Nat) (v : Value) (l : List (List Int)) : Prop :=
  ∃ A cap, v = .slice A l.length cap ∧ l.length ≤ cap ∧ cap ≤ maxLen ∧ (∀ row ∈ l, row.length = k ∧ ∀ x ∈ row, -9223372036854775808 ≤ x ∧ x ≤ 9223372036854775807) ∧ RowsAt w k A l

theorem rows_cells_int : Try.prog.cellsOf 3 = 1 := by kernel_rfl
section
variable {H : Type} {enc : TypeId × Value → H} {w : World} {base : Nat} {spare : Nat → Bool} {held : Bool}

theorem cell_spot {w : World} {a : Addr} {v : Value} (h : w.cell? a = some v) : a.spot = none := by
  unfold World.cell? at h
  split at h
  · cases hs : a.spot with
    | none => rfl
    | some s => simp [hs] at h
  · simp at h

set_option maxRecDepth 100000 in
set_option maxHeartbeats 100000 in
theorem open_rows' {t e : TypeId} {k : Nat} {v : Value} {d : DataW H} {p : List MemPlace} (ht : Try.prog.underlying t = some (.slice e)) (hC : Try.prog.cellsOf e = k) (hk : 0 < k)
    (helem : ∀ (n : Nat) (cs : List Value) (y : DataW H × List MemPlace), DataW.trod enc Try.prog w base spare held n e cs = some y → ∃ row : List Int, row.length = k ∧ cs = row.map (Value.int .i64) ∧ ∀ x ∈ row, -9223372036854775808 ≤ x ∧ x ≤ 9223372036854775807)
    (h1 : ∃ a len cap, v = .slice a len cap) (h : DataW.Trod enc Try.prog w base spare held t v d p) : ∃ l, ArgRows w k v l := by
  obtain ⟨a0, len0, cap0, e1⟩ := h1
  subst e1
  obtain ⟨fuel, hf⟩ := h
  rcases open_slice ht hf with ⟨hcs, hx⟩ | ⟨a, len, cap, m, n, D, Pl, hcs, hb, hl, hm, hmm, hx, hi⟩
  · simp [Value.cells] at hcs
    obtain ⟨rfl, rfl, rfl⟩ := hcs
    exact ⟨[], none, 0, rfl, Nat.le_refl 0, Nat.zero_le maxLen, fun row hr => absurd hr (by simp), fun h0 => absurd h0 (by simp)⟩
  · simp [Value.cells] at hcs
    obtain ⟨rfl, rfl, rfl⟩ := hcs
    have hlm : len0 ≤ m := by rw [hmm]; split <;> omega
    have hrow : ∀ i, i < len0 → ∃ row : List Int, row.length = k ∧ (∀ x ∈ row, -9223372036854775808 ≤ x ∧ x ≤ 9223372036854775807) ∧ ∀ j x, row[j]? = some x → w.cell? (a.add (i * k + j)) = some (.int .i64 x) := by
      intro i hlt
      obtain ⟨cs', hc, ht'⟩ := hi i (by omega)
      rw [hC] at hc
      obtain ⟨row, hr, rfl, hbd⟩ := helem n cs' _ ht'
      obtain ⟨_, hcl, hat⟩ := World.cells?_some hc
      refine ⟨row, hr, hbd, fun j x hj => ?_⟩
      have hjl : j < k := by
        rw [← hr]
        rcases Nat.lt_or_ge j row.length with hl' | hl'
        · exact hl'
        · rw [List.getElem?_eq_none hl'] at hj; cases hj
      rw [← Go.Deep.add_add, hat j hjl]
      simp [hj]
    obtain ⟨f, hf'⟩ : ∃ f : Nat → List Int, ∀ i, i < len0 → (f i).length = k ∧ (∀ x ∈ f i, -9223372036854775808 ≤ x ∧ x ≤ 9223372036854775807) ∧ ∀ j x, (f i)[j]? = some x → w.cell? (a.add (i * k + j)) = some (.int .i64 x) := by
      refine ⟨fun i => if h : i < len0 then Classical.choose (hrow i h) else [], fun i hlt => ?_⟩
      simp only [dif_pos hlt]
      exact Classical.choose_spec (hrow i hlt)
    refine ⟨(List.range len0).map f, some a, cap0, by simp, by simpa using hl, hm, ?_, ?_⟩
    · intro row hmem
      simp only [List.mem_map, List.mem_range] at hmem
      obtain ⟨i, hlt, rfl⟩ := hmem
      exact ⟨(hf' i hlt).1, (hf' i hlt).2.1⟩
    · intro h0
      simp at h0
      have hc0 : w.cell? (a.add (0 * k + 0)) = some (.int .i64 ((f 0)[0]'(by rw [(hf' 0 h0).1]; exact hk))) := (hf' 0 h0).2.2 0 _ (List.getElem?_eq_getElem _)
      have hs : a.spot = none := by
        have := cell_spot hc0
        simpa [Addr.add] using this
      obtain ⟨b, off, sp⟩ := a
      simp only at hs
      subst hs
      refine ⟨b, off, rfl, ?_, ?_⟩
      · have := World.block_lt_of_cell? w _ hc0
        simpa [Addr.add] using this
      · intro i row j x h1 h2
        simp only [List.getElem?_map] at h1
        have hlt : i < len0 := by
          rcases Nat.lt_or_ge i len0 with hl' | hl'
          · exact hl'
          · rw [List.getElem?_eq_none (by simpa using hl')] at h1; simp at h1
        rw [List.getElem?_range hlt] at h1
        simp at h1
        subst h1
        have := (hf' i hlt).2.2 j x h2
        rw [← this, ← Go.Deep.add_add]
        unfold Addr.add
        congr 1
        by_cases h3 : i * k = 0 <;> by_cases h4 : j = 0 <;> simp [h3, h4, Nat.add_assoc]

set_option maxRecDepth 100000 in
theorem open_rows {r : Reach} {b0 : Nat} {t e : TypeId} {k : Nat} {v : Value} {d : DataW H} {p : List MemPlace} (ht : Try.prog.underlying t = some (.slice e)) (hC : Try.prog.cellsOf e = k) (hk : 0 < k)
    (helem : ∀ (n : Nat) (cs : List Value) (y : DataW H × List MemPlace), DataW.trod enc Try.prog w base spare held n e cs = some y → ∃ row : List Int, row.length = k ∧ cs = row.map (Value.int .i64) ∧ ∀ x ∈ row, -9223372036854775808 ≤ x ∧ x ≤ 9223372036854775807)
    (hv : Value.okWide Try.prog w r b0 t v) (h : DataW.Trod enc Try.prog w base spare held t v d p) : ∃ l, ArgRows w k v l :=
  open_rows' ht hC hk helem (okWide_slice (P := Try.prog) ht hv) h

/-- a struct of k integers, read as cells -/
theorem struct_ints {e : TypeId} {fs : Array Field} {k : Nat} (hu : Try.prog.underlying e = some (.struct fs)) (hone : oneCellFields Try.prog fs = true) (hints : ∀ (i : Nat) (f : Field), fs[i]? = some f → f.type = 3) (hC : Try.prog.cellsOf e = k) (hfs : fs.size = k) :
    ∀ (n : Nat) (cs : List Value) (y : DataW H × List MemPlace), DataW.trod enc Try.prog w base spare held n e cs = some y → ∃ row : List Int, row.length = k ∧ cs = row.map (Value.int .i64) ∧ ∀ x ∈ row, -9223372036854775808 ≤ x ∧ x ≤ 9223372036854775807 := by
  intro n cs y h
  obtain ⟨xs, n', _, hx, hlen, hxl, hg⟩ := DataW.trod_struct hu h
  have hcell : ∀ i, i < k → ∃ x : Int, cs[i]? = some (.int .i64 x) ∧ -9223372036854775808 ≤ x ∧ x ≤ 9223372036854775807 := by
    intro i hi
    have hf : fs[i]? = some (fs[i]'(by omega)) := Array.getElem?_eq_getElem _
    obtain ⟨ho, hk1⟩ := hone_of hone i _ hf
    have h1 := hg i _ hf
    rw [ho, hk1, hints i _ hf] at h1
    have hv : cs[i]? = some (cs[i]'(by omega)) := List.getElem?_eq_getElem (by omega)
    have hone' : (cs.drop i).take 1 = [cs[i]'(by omega)] := by
      rw [List.drop_eq_getElem_cons (by omega)]; rfl
    rw [hone'] at h1
    have hys : xs[i]? = some (xs[i]'(by omega)) := List.getElem?_eq_getElem (by omega)
    obtain ⟨x, hc, _, wf⟩ := DataW.trod_int Try.underlying3 (h1.trans hys)
    have hc' : cs[i]'(by omega) = .int .i64 x := by simpa using hc
    exact ⟨x, by rw [hv, hc'], bounds_i64 wf⟩
  refine ⟨(List.range k).map fun i => if h : i < k then Classical.choose (hcell i h) else 0, by simp, ?_, ?_⟩
  · apply List.ext_getElem?
    intro i
    rcases Nat.lt_or_ge i k with hi | hi
    · have := (Classical.choose_spec (hcell i hi)).1
      rw [this]
      simp [hi]
    · rw [List.getElem?_eq_none (by omega), List.getElem?_eq_none (by simpa using hi)]
  · intro x hx'
    simp only [List.mem_map, List.mem_range] at hx'
    obtain ⟨i, hi, rfl⟩ := hx'
    simp only [dif_pos hi]
    exact (Classical.choose_spec (hcell i hi)).2
theorem one_int : ∀ (n : Nat) (cs : List Value) (y : DataW H × List MemPlace), DataW.trod enc Try.prog w base spare held n 3 cs = some y → ∃ row : List Int, row.length = 1 ∧ cs = row.map (Value.int .i64) ∧ ∀ x ∈ row, -9223372036854775808 ≤ x ∧ x ≤ 9223372036854775807 := by
  intro n cs y h
  obtain ⟨x, rfl, _, wf⟩ := DataW.trod_int Try.underlying3 h
  exact ⟨[x], rfl, rfl, by intro z hz; simp at hz; subst hz; exact bounds_i64 wf⟩
end
end Go.Proofs.Ytcnoapogeohmkaa
