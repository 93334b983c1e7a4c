/- Proved: what a plan prints is read as it was; what is read of a text can be printed, and is read from there as it was (the law PlanBack answers true), and the arguments read as they did: the tied card. No conditions beyond the given card's own. -/
import Derived.Test.YthelnkoohbnjpaaDoorFrame
import Derived.Test.YthelnkoohbnjpaaDoorRows
import Derived.Handy
import Derived.Deep.Slices
import Derived.Deep.Fields
import Derived.Test.YthelnkoohbnjpaaDoorZBase
import Derived.Test.YthelnkoohbnjpaaDoorZCron
import Derived.Test.YthelnkoohbnjpaaDoorZSpan
import Derived.SizedLaws
import Derived.Test.YthelnkoohbnjpaaDoorZPln
import Derived.Handed
import Derived.LaidMore
import Derived.LaidLaws
import Derived.Lay
import Derived.SevenTiedAt
import Derived.Stop.Joined
import Derived.Test.YthelnkoohbnjpaaDoorLinC
import Derived.Stop.LaidErr
import Derived.MakeChecks
import Derived.Test.YthelnkoohbnjpaaDoorCards
import Derived.Test.YthelnkoohbnjpaaDoorTie
import Derived.Test.YthelnkoohbnjpaaDoorZPbk
set_option linter.unusedVariables false
set_option linter.unusedSimpArgs false
namespace Go.Proofs.YthelnkoohbnjpaaDoor
open Go.ChangeShapes Go.WideShapes Go.ChangeAt Go.RowKit Go.Deep

/-- cells of rows, k to a row, from address A on (nil, where there is none) -/
def RowsAt (w : World) (k : Nat) (A : Option Addr) (l : List (List Int)) : Prop :=
  0 < l.length → ∃ b off, A = some ⟨b, off, none⟩ ∧ b < w.heap.size ∧ ∀ i row j x, l[i]? = some row → row[j]? = some x → w.cell? ⟨b, off + i * k + j, none⟩ = some (.int .i64 x)
theorem RowsAt.below {B k : Nat} {w w' : World} {A : Option Addr} {l : List (List Int)} (h : RowsAt w k A l) (hb : Below B w w') (hB : w.heap.size ≤ B) : RowsAt w' k A l := fun h0 => by
  obtain ⟨b, off, e, hlt, hc⟩ := h h0
  refine ⟨b, off, e, Nat.lt_of_lt_of_le hlt hb.size, fun i row j x h1 h2 => ?_⟩
  exact (hb.cell (p := ⟨b, off + i * k + j, none⟩) (by show b < B; omega)).trans (hc i row j x h1 h2)
/-- what is asked of an argument: its rows, each of k numbers that fit -/
def ArgRows (w : World) (k : Nat) (v : Value) (l : List (List Int)) : Prop :=
  ∃ A cap, v = .slice A l.length cap ∧ l.length ≤ cap ∧ cap ≤ maxLen ∧ (∀ row ∈ l, row.length = k ∧ ∀ x ∈ row, -9223372036854775808 ≤ x ∧ x ≤ 9223372036854775807) ∧ RowsAt w k A l

theorem rows_cells_int : Tryd.prog.cellsOf 3 = 1 := by kernel_rfl
section
variable {H : Type} {enc : TypeId × Value → H} {w : World} {base : Nat} {spare : Nat → Bool} {held : Bool}

theorem cell_spot {w : World} {a : Addr} {v : Value} (h : w.cell? a = some v) : a.spot = none := by
  unfold World.cell? at h
  split at h
  · cases hs : a.spot with
    | none => rfl
    | some s => simp [hs] at h
  · simp at h

set_option maxRecDepth 100000 in
set_option maxHeartbeats 100000 in
theorem open_rows' {t e : TypeId} {k : Nat} {v : Value} {d : DataW H} {p : List MemPlace} (ht : Tryd.prog.underlying t = some (.slice e)) (hC : Tryd.prog.cellsOf e = k) (hk : 0 < k)
    (helem : ∀ (n : Nat) (cs : List Value) (y : DataW H × List MemPlace), DataW.trod enc Tryd.prog w base spare held n e cs = some y → ∃ row : List Int, row.length = k ∧ cs = row.map (Value.int .i64) ∧ ∀ x ∈ row, -9223372036854775808 ≤ x ∧ x ≤ 9223372036854775807)
    (h1 : ∃ a len cap, v = .slice a len cap) (h : DataW.Trod enc Tryd.prog w base spare held t v d p) : ∃ l, ArgRows w k v l := by
  obtain ⟨a0, len0, cap0, e1⟩ := h1
  subst e1
  obtain ⟨fuel, hf⟩ := h
  rcases open_slice ht hf with ⟨hcs, hx⟩ | ⟨a, len, cap, m, n, D, Pl, hcs, hb, hl, hm, hmm, hx, hi⟩
  · simp [Value.cells] at hcs
    obtain ⟨rfl, rfl, rfl⟩ := hcs
    exact ⟨[], none, 0, rfl, Nat.le_refl 0, Nat.zero_le maxLen, fun row hr => absurd hr (by simp), fun h0 => absurd h0 (by simp)⟩
  · simp [Value.cells] at hcs
    obtain ⟨rfl, rfl, rfl⟩ := hcs
    have hlm : len0 ≤ m := by rw [hmm]; split <;> omega
    have hrow : ∀ i, i < len0 → ∃ row : List Int, row.length = k ∧ (∀ x ∈ row, -9223372036854775808 ≤ x ∧ x ≤ 9223372036854775807) ∧ ∀ j x, row[j]? = some x → w.cell? (a.add (i * k + j)) = some (.int .i64 x) := by
      intro i hlt
      obtain ⟨cs', hc, ht'⟩ := hi i (by omega)
      rw [hC] at hc
      obtain ⟨row, hr, rfl, hbd⟩ := helem n cs' _ ht'
      obtain ⟨_, hcl, hat⟩ := World.cells?_some hc
      refine ⟨row, hr, hbd, fun j x hj => ?_⟩
      have hjl : j < k := by
        rw [← hr]
        rcases Nat.lt_or_ge j row.length with hl' | hl'
        · exact hl'
        · rw [List.getElem?_eq_none hl'] at hj; cases hj
      rw [← Go.Deep.add_add, hat j hjl]
      simp [hj]
    obtain ⟨f, hf'⟩ : ∃ f : Nat → List Int, ∀ i, i < len0 → (f i).length = k ∧ (∀ x ∈ f i, -9223372036854775808 ≤ x ∧ x ≤ 9223372036854775807) ∧ ∀ j x, (f i)[j]? = some x → w.cell? (a.add (i * k + j)) = some (.int .i64 x) := by
      refine ⟨fun i => if h : i < len0 then Classical.choose (hrow i h) else [], fun i hlt => ?_⟩
      simp only [dif_pos hlt]
      exact Classical.choose_spec (hrow i hlt)
    refine ⟨(List.range len0).map f, some a, cap0, by simp, by simpa using hl, hm, ?_, ?_⟩
    · intro row hmem
      simp only [List.mem_map, List.mem_range] at hmem
      obtain ⟨i, hlt, rfl⟩ := hmem
      exact ⟨(hf' i hlt).1, (hf' i hlt).2.1⟩
    · intro h0
      simp at h0
      have hc0 : w.cell? (a.add (0 * k + 0)) = some (.int .i64 ((f 0)[0]'(by rw [(hf' 0 h0).1]; exact hk))) := (hf' 0 h0).2.2 0 _ (List.getElem?_eq_getElem _)
      have hs : a.spot = none := by
        have := cell_spot hc0
        simpa [Addr.add] using this
      obtain ⟨b, off, sp⟩ := a
      simp only at hs
      subst hs
      refine ⟨b, off, rfl, ?_, ?_⟩
      · have := World.block_lt_of_cell? w _ hc0
        simpa [Addr.add] using this
      · intro i row j x h1 h2
        simp only [List.getElem?_map] at h1
        have hlt : i < len0 := by
          rcases Nat.lt_or_ge i len0 with hl' | hl'
          · exact hl'
          · rw [List.getElem?_eq_none (by simpa using hl')] at h1; simp at h1
        rw [List.getElem?_range hlt] at h1
        simp at h1
        subst h1
        have := (hf' i hlt).2.2 j x h2
        rw [← this, ← Go.Deep.add_add]
        unfold Addr.add
        congr 1
        by_cases h3 : i * k = 0 <;> by_cases h4 : j = 0 <;> simp [h3, h4, Nat.add_assoc]

set_option maxRecDepth 100000 in
theorem open_rows {r : Reach} {b0 : Nat} {t e : TypeId} {k : Nat} {v : Value} {d : DataW H} {p : List MemPlace} (ht : Tryd.prog.underlying t = some (.slice e)) (hC : Tryd.prog.cellsOf e = k) (hk : 0 < k)
    (helem : ∀ (n : Nat) (cs : List Value) (y : DataW H × List MemPlace), DataW.trod enc Tryd.prog w base spare held n e cs = some y → ∃ row : List Int, row.length = k ∧ cs = row.map (Value.int .i64) ∧ ∀ x ∈ row, -9223372036854775808 ≤ x ∧ x ≤ 9223372036854775807)
    (hv : Value.okWide Tryd.prog w r b0 t v) (h : DataW.Trod enc Tryd.prog w base spare held t v d p) : ∃ l, ArgRows w k v l :=
  open_rows' ht hC hk helem (okWide_slice (P := Tryd.prog) ht hv) h

/-- a struct of k integers, read as cells -/
theorem struct_ints {e : TypeId} {fs : Array Field} {k : Nat} (hu : Tryd.prog.underlying e = some (.struct fs)) (hone : oneCellFields Tryd.prog fs = true) (hints : ∀ (i : Nat) (f : Field), fs[i]? = some f → f.type = 3) (hC : Tryd.prog.cellsOf e = k) (hfs : fs.size = k) :
    ∀ (n : Nat) (cs : List Value) (y : DataW H × List MemPlace), DataW.trod enc Tryd.prog w base spare held n e cs = some y → ∃ row : List Int, row.length = k ∧ cs = row.map (Value.int .i64) ∧ ∀ x ∈ row, -9223372036854775808 ≤ x ∧ x ≤ 9223372036854775807 := by
  intro n cs y h
  obtain ⟨xs, n', _, hx, hlen, hxl, hg⟩ := DataW.trod_struct hu h
  have hcell : ∀ i, i < k → ∃ x : Int, cs[i]? = some (.int .i64 x) ∧ -9223372036854775808 ≤ x ∧ x ≤ 9223372036854775807 := by
    intro i hi
    have hf : fs[i]? = some (fs[i]'(by omega)) := Array.getElem?_eq_getElem _
    obtain ⟨ho, hk1⟩ := hone_of hone i _ hf
    have h1 := hg i _ hf
    rw [ho, hk1, hints i _ hf] at h1
    have hv : cs[i]? = some (cs[i]'(by omega)) := List.getElem?_eq_getElem (by omega)
    have hone' : (cs.drop i).take 1 = [cs[i]'(by omega)] := by
      rw [List.drop_eq_getElem_cons (by omega)]; rfl
    rw [hone'] at h1
    have hys : xs[i]? = some (xs[i]'(by omega)) := List.getElem?_eq_getElem (by omega)
    obtain ⟨x, hc, _, wf⟩ := DataW.trod_int Tryd.underlying3 (h1.trans hys)
    have hc' : cs[i]'(by omega) = .int .i64 x := by simpa using hc
    exact ⟨x, by rw [hv, hc'], bounds_i64 wf⟩
  refine ⟨(List.range k).map fun i => if h : i < k then Classical.choose (hcell i h) else 0, by simp, ?_, ?_⟩
  · apply List.ext_getElem?
    intro i
    rcases Nat.lt_or_ge i k with hi | hi
    · have := (Classical.choose_spec (hcell i hi)).1
      rw [this]
      simp [hi]
    · rw [List.getElem?_eq_none (by omega), List.getElem?_eq_none (by simpa using hi)]
  · intro x hx'
    simp only [List.mem_map, List.mem_range] at hx'
    obtain ⟨i, hi, rfl⟩ := hx'
    simp only [dif_pos hi]
    exact (Classical.choose_spec (hcell i hi)).2
theorem one_int : ∀ (n : Nat) (cs : List Value) (y : DataW H × List MemPlace), DataW.trod enc Tryd.prog w base spare held n 3 cs = some y → ∃ row : List Int, row.length = 1 ∧ cs = row.map (Value.int .i64) ∧ ∀ x ∈ row, -9223372036854775808 ≤ x ∧ x ≤ 9223372036854775807 := by
  intro n cs y h
  obtain ⟨x, rfl, _, wf⟩ := DataW.trod_int Tryd.underlying3 h
  exact ⟨[x], rfl, rfl, by intro z hz; simp at hz; subst hz; exact bounds_i64 wf⟩
end
end Go.Proofs.YthelnkoohbnjpaaDoor
namespace Go.Proofs.YthelnkoohbnjpaaDoor
open Go.ChangeShapes Go.WideShapes Go.ChangeAt Go.RowKit
set_option maxRecDepth 100000 in
theorem open_intl {H : Type} {enc : TypeId × Value → H} {w : World} {base : Nat} {spare : Nat → Bool} {held : Bool} {r : Reach} {b0 : Nat} {v : Value} {d : DataW H} {p : List MemPlace}
    (hv : Value.okWide Tryd.prog w r b0 69 v) (h : DataW.Trod enc Tryd.prog w base spare held 69 v d p) : ∃ l, ArgRows w 1 v l :=
  open_rows Tryd.underlying69 rows_cells_int (by decide) one_int hv h
set_option maxRecDepth 100000 in
theorem open_intl' {H : Type} {enc : TypeId × Value → H} {w : World} {base : Nat} {spare : Nat → Bool} {held : Bool} {v : Value} {d : DataW H} {p : List MemPlace}
    (h1 : ∃ a len cap, v = .slice a len cap) (h : DataW.Trod enc Tryd.prog w base spare held 69 v d p) : ∃ l, ArgRows w 1 v l :=
  open_rows' Tryd.underlying69 rows_cells_int (by decide) one_int h1 h
set_option maxRecDepth 100000 in
/-- the number of a round -/
theorem round_int {w wr : World} {A : Option Addr} {l : List (List Int)} {k : Nat} (hA : RowsAt w 1 A l) (hr : ∀ row ∈ l, row.length = 1 ∧ ∀ x ∈ row, -9223372036854775808 ≤ x ∧ x ≤ 9223372036854775807) (hb : Below w.heap.size w wr) (hk : k < l.length) :
    ∃ b off x, A = some ⟨b, off, none⟩ ∧ wr.cell? ⟨b, off + k, none⟩ = some (.int .i64 x) ∧ -9223372036854775808 ≤ x ∧ x ≤ 9223372036854775807 := by
  obtain ⟨b, off, e, hlt, hc⟩ := hA (by omega)
  have hrow : l[k]? = some l[k] := List.getElem?_eq_getElem hk
  have hlen := (hr _ (List.getElem_mem hk)).1
  have hbd := (hr _ (List.getElem_mem hk)).2
  obtain ⟨x, hx⟩ : ∃ x, l[k] = [x] := by
    match l[k], hlen with
    | [x], _ => exact ⟨x, rfl⟩
  rw [hx] at hrow hbd
  have h0 := hc k _ 0 x hrow rfl
  rw [Nat.mul_one, Nat.add_zero] at h0
  exact ⟨b, off, x, e, (hb.cell (p := ⟨b, off + k, none⟩) hlt).trans h0, (hbd x (by simp)).1, (hbd x (by simp)).2⟩
end Go.Proofs.YthelnkoohbnjpaaDoor
namespace Go.Proofs.YthelnkoohbnjpaaDoor
open Go.ChangeShapes Go.WideShapes Go.ChangeAt Go.RowKit Go.Deep
section
variable {H : Type} {enc : TypeId × Value → H} {w : World} {base : Nat} {spare : Nat → Bool} {held : Bool}
set_option maxRecDepth 100000 in
set_option maxHeartbeats 400000 in
theorem open_list {α : Type} {en : α → List Value} {Q : α → Prop} {t e : TypeId} {k : Nat} {v : Value} {d : DataW H} {p : List MemPlace} (ht : Tryd.prog.underlying t = some (.slice e)) (hC : Tryd.prog.cellsOf e = k) (hk : 0 < k) (hen : ∀ a, (en a).length = k)
    (helem : ∀ (n : Nat) (cs : List Value) (y : DataW H × List MemPlace), cs.length = k → DataW.trod enc Tryd.prog w base spare held n e cs = some y → ∃ a : α, cs = en a ∧ Q a)
    (h1 : ∃ a len cap, v = .slice a len cap) (h : DataW.Trod enc Tryd.prog w base spare held t v d p) : ∃ (l : List α) (A : Option Addr) (cap : Nat), v = .slice A l.length cap ∧ l.length ≤ cap ∧ cap ≤ maxLen ∧ (∀ a ∈ l, Q a) ∧ Tide.ListIn w k en v l := by
  obtain ⟨a0, len0, cap0, e1⟩ := h1
  subst e1
  obtain ⟨fuel, hf⟩ := h
  rcases open_slice ht hf with ⟨hcs, hx⟩ | ⟨a, len, cap, m, n, D, Pl, hcs, hb, hl, hm, hmm, hx, hi⟩
  · simp [Value.cells] at hcs
    obtain ⟨rfl, rfl, rfl⟩ := hcs
    exact ⟨[], none, 0, rfl, Nat.le_refl 0, Nat.zero_le maxLen, fun row hr => absurd hr (by simp), none, 0, rfl, fun h0 => absurd h0 (by simp)⟩
  · simp [Value.cells] at hcs
    obtain ⟨rfl, rfl, rfl⟩ := hcs
    have hlm : len0 ≤ m := by rw [hmm]; split <;> omega
    have hrow : ∀ i, i < len0 → ∃ x : α, Q x ∧ ∀ j u, (en x)[j]? = some u → w.cell? (a.add (i * k + j)) = some u := by
      intro i hlt
      obtain ⟨cs', hc, ht'⟩ := hi i (by omega)
      rw [hC] at hc
      obtain ⟨_, hcl, hat⟩ := World.cells?_some hc
      obtain ⟨x, hx1, hq⟩ := helem n cs' _ hcl ht'
      refine ⟨x, hq, fun j u hj => ?_⟩
      have hjl : j < k := by
        rw [← hen x]
        rcases Nat.lt_or_ge j (en x).length with hl' | hl'
        · exact hl'
        · rw [List.getElem?_eq_none hl'] at hj; cases hj
      rw [← Go.Deep.add_add, hat j hjl]
      rw [hx1]; exact hj
    obtain ⟨f, hf'⟩ : ∃ f : Fin len0 → α, ∀ i : Fin len0, Q (f i) ∧ ∀ j u, (en (f i))[j]? = some u → w.cell? (a.add (i.1 * k + j)) = some u :=
      ⟨fun i => Classical.choose (hrow i.1 i.2), fun i => Classical.choose_spec (hrow i.1 i.2)⟩
    have hlen : (List.ofFn f).length = len0 := by simp
    refine ⟨List.ofFn f, some a, cap0, by rw [hlen], by rw [hlen]; simpa using hl, hm, ?_, some a, cap0, by rw [hlen], ?_⟩
    · intro x hx
      obtain ⟨i, rfl⟩ := List.mem_ofFn.1 hx
      exact (hf' i).1
    · intro h0
      rw [hlen] at h0
      have hz : 0 < (en (f ⟨0, h0⟩)).length := by rw [hen]; exact hk
      have hc0 : w.cell? (a.add (0 * k + 0)) = some ((en (f ⟨0, h0⟩))[0]'hz) := (hf' ⟨0, h0⟩).2 0 _ (List.getElem?_eq_getElem _)
      have hs : a.spot = none := by
        have := cell_spot hc0
        simpa [Addr.add] using this
      obtain ⟨b, off, sp⟩ := a
      simp only at hs
      subst hs
      refine ⟨b, off, rfl, ?_, ?_⟩
      · have := World.block_lt_of_cell? w _ hc0
        simpa [Addr.add] using this
      · intro i x j u h1 h2
        have hlt : i < len0 := by
          rw [← hlen]
          rcases Nat.lt_or_ge i (List.ofFn f).length with hl' | hl'
          · exact hl'
          · rw [List.getElem?_eq_none hl'] at h1; cases h1
        rw [List.getElem?_ofFn, dif_pos hlt] at h1
        cases h1
        have := (hf' ⟨i, hlt⟩).2 j u h2
        rw [← this]
        unfold Addr.add
        congr 1
        by_cases h3 : i * k = 0 <;> by_cases h4 : j = 0 <;> simp [h3, h4, Nat.add_assoc]
end
end Go.Proofs.YthelnkoohbnjpaaDoor
namespace Go.Proofs.YthelnkoohbnjpaaDoor
open Go.ChangeShapes Go.WideShapes Go.ChangeAt Go.RowKit
set_option maxRecDepth 100000 in
theorem cells_u64 : Tryd.prog.cellsOf 22 = 1 := by kernel_rfl
set_option maxRecDepth 100000 in
theorem cells_bool : Tryd.prog.cellsOf 4 = 1 := by kernel_rfl
set_option maxRecDepth 100000 in
theorem cells_cron : Tryd.prog.cellsOf 24 = 7 := by kernel_rfl
set_option maxRecDepth 100000 in
theorem u64_wf {k : Int} (h : (Lit.int .u64 k).wf = true) : ∃ n : Nat, k = (n : Int) ∧ n < 18446744073709551616 := by
  have h1 := bounds_u64 h
  exact ⟨k.toNat, by omega, by omega⟩
section
variable {H : Type} {enc : TypeId × Value → H} {w : World} {base : Nat} {spare : Nat → Bool} {held : Bool}
set_option maxRecDepth 100000 in
theorem open_cron {r : Reach} {b0 : Nat} {v : Value} {d : DataW H} {p : List MemPlace} (hv : Value.okWide Tryd.prog w r b0 24 v) (h : DataW.Trod enc Tryd.prog w base spare held 24 v d p) :
    ∃ c : Cr, c.fits ∧ v = .agg c.cells := by
  obtain ⟨cs, rfl, hsz⟩ := okWide_struct Tryd.underlying24 hv
  obtain ⟨l⟩ := cs
  match l, hsz.trans cells_cron with
  | [c0, c1, c2, c3, c4, c5, c6], _ =>
    obtain ⟨fuel, hf⟩ := h
    obtain ⟨xs, n, _, hx, _, hlen, hg⟩ := DataW.trod_struct Tryd.underlying24 hf
    have one : ∀ (i : Nat) (c : Value), i < 7 → (DataW.trod enc Tryd.prog w base spare held n 22 [c] = xs[i]?) → ∃ k : Nat, c = .int .u64 (k : Int) ∧ k < 18446744073709551616 := by
      intro i c hi ht
      have hs : xs[i]? = some (xs[i]'(by rw [hlen]; exact hi)) := List.getElem?_eq_getElem _
      obtain ⟨k, hc, _, wf⟩ := DataW.trod_int Tryd.underlying22 (ht.trans hs)
      obtain ⟨m, rfl, hm⟩ := u64_wf wf
      exact ⟨m, by simpa using hc, hm⟩
    have oneb : ∀ (i : Nat) (c : Value), i < 7 → (DataW.trod enc Tryd.prog w base spare held n 4 [c] = xs[i]?) → ∃ k : Bool, c = .bool k := by
      intro i c hi ht
      have hs : xs[i]? = some (xs[i]'(by rw [hlen]; exact hi)) := List.getElem?_eq_getElem _
      obtain ⟨k, hc, _⟩ := DataW.trod_bool Tryd.underlying4 (ht.trans hs)
      exact ⟨k, by simpa using hc⟩
    obtain ⟨k0, rfl, h0⟩ := one 0 c0 (by omega) (by simpa [cells_u64, Value.cells] using hg 0 _ rfl)
    obtain ⟨k1, rfl, h1⟩ := one 1 c1 (by omega) (by simpa [cells_u64, Value.cells] using hg 1 _ rfl)
    obtain ⟨k2, rfl, h2⟩ := one 2 c2 (by omega) (by simpa [cells_u64, Value.cells] using hg 2 _ rfl)
    obtain ⟨k3, rfl, h3⟩ := one 3 c3 (by omega) (by simpa [cells_u64, Value.cells] using hg 3 _ rfl)
    obtain ⟨k4, rfl, h4⟩ := one 4 c4 (by omega) (by simpa [cells_u64, Value.cells] using hg 4 _ rfl)
    obtain ⟨k5, rfl⟩ := oneb 5 c5 (by omega) (by simpa [cells_bool, Value.cells] using hg 5 _ rfl)
    obtain ⟨k6, rfl⟩ := oneb 6 c6 (by omega) (by simpa [cells_bool, Value.cells] using hg 6 _ rfl)
    exact ⟨⟨k0, k1, k2, k3, k4, k5, k6⟩, ⟨h0, h1, h2, h3, h4⟩, rfl⟩
end
end Go.Proofs.YthelnkoohbnjpaaDoor
namespace Go.Proofs.YthelnkoohbnjpaaDoor
open Go.ChangeShapes Go.WideShapes Go.ChangeAt Go.RowKit
set_option linter.unusedVariables false
theorem cells_span : Tryd.prog.cellsOf 80 = 14 := by kernel_rfl
section
variable {H : Type} {enc : TypeId × Value → H} {w : World} {base : Nat} {spare : Nat → Bool} {held : Bool}
set_option maxRecDepth 100000 in
theorem cron_list {fuel : Nat} {x : DataW H × List MemPlace} {c0 c1 c2 c3 c4 c5 c6 : Value} (hf : DataW.trod enc Tryd.prog w base spare held fuel 24 [c0, c1, c2, c3, c4, c5, c6] = some x) :
    ∃ (a b c d e : Nat) (f g : Bool), c0 = .int .u64 (a : Int) ∧ c1 = .int .u64 (b : Int) ∧ c2 = .int .u64 (c : Int) ∧ c3 = .int .u64 (d : Int) ∧ c4 = .int .u64 (e : Int) ∧ c5 = .bool f ∧ c6 = .bool g ∧ Cr.fits ⟨a, b, c, d, e, f, g⟩ := by
  obtain ⟨xs, n, _, hx, _, hlen, hg⟩ := DataW.trod_struct Tryd.underlying24 hf
  have one : ∀ (i : Nat) (c : Value), i < 7 → (DataW.trod enc Tryd.prog w base spare held n 22 [c] = xs[i]?) → ∃ k : Nat, c = .int .u64 (k : Int) ∧ k < 18446744073709551616 := by
    intro i c hi ht
    have hs : xs[i]? = some (xs[i]'(by rw [hlen]; exact hi)) := List.getElem?_eq_getElem _
    obtain ⟨k, hc, _, wf⟩ := DataW.trod_int Tryd.underlying22 (ht.trans hs)
    obtain ⟨m, rfl, hm⟩ := u64_wf wf
    exact ⟨m, by simpa using hc, hm⟩
  have oneb : ∀ (i : Nat) (c : Value), i < 7 → (DataW.trod enc Tryd.prog w base spare held n 4 [c] = xs[i]?) → ∃ k : Bool, c = .bool k := by
    intro i c hi ht
    have hs : xs[i]? = some (xs[i]'(by rw [hlen]; exact hi)) := List.getElem?_eq_getElem _
    obtain ⟨k, hc, _⟩ := DataW.trod_bool Tryd.underlying4 (ht.trans hs)
    exact ⟨k, by simpa using hc⟩
  obtain ⟨k0, h0', h0⟩ := one 0 c0 (by omega) (by simpa [cells_u64] using hg 0 _ rfl)
  obtain ⟨k1, h1', h1⟩ := one 1 c1 (by omega) (by simpa [cells_u64] using hg 1 _ rfl)
  obtain ⟨k2, h2', h2⟩ := one 2 c2 (by omega) (by simpa [cells_u64] using hg 2 _ rfl)
  obtain ⟨k3, h3', h3⟩ := one 3 c3 (by omega) (by simpa [cells_u64] using hg 3 _ rfl)
  obtain ⟨k4, h4', h4⟩ := one 4 c4 (by omega) (by simpa [cells_u64] using hg 4 _ rfl)
  obtain ⟨k5, h5'⟩ := oneb 5 c5 (by omega) (by simpa [cells_bool] using hg 5 _ rfl)
  obtain ⟨k6, h6'⟩ := oneb 6 c6 (by omega) (by simpa [cells_bool] using hg 6 _ rfl)
  exact ⟨k0, k1, k2, k3, k4, k5, k6, h0', h1', h2', h3', h4', h5', h6', ⟨h0, h1, h2, h3, h4⟩⟩
set_option maxRecDepth 100000 in
theorem open_span {r : Reach} {b0 : Nat} {v : Value} {d : DataW H} {p : List MemPlace} (hv : Value.okWide Tryd.prog w r b0 80 v) (h : DataW.Trod enc Tryd.prog w base spare held 80 v d p) :
    ∃ (ai ah ad am aw bi bh bd bm bw : Nat) (aa ab ba bb : Bool), Cr.fits ⟨ai, ah, ad, am, aw, aa, ab⟩ ∧ Cr.fits ⟨bi, bh, bd, bm, bw, ba, bb⟩ ∧ v = .agg #[.int .u64 (ai : Int), .int .u64 (ah : Int), .int .u64 (ad : Int), .int .u64 (am : Int), .int .u64 (aw : Int), .bool aa, .bool ab, .int .u64 (bi : Int), .int .u64 (bh : Int), .int .u64 (bd : Int), .int .u64 (bm : Int), .int .u64 (bw : Int), .bool ba, .bool bb] := by
  obtain ⟨cs, rfl, hsz⟩ := okWide_struct Tryd.underlying80 hv
  obtain ⟨l⟩ := cs
  match l, hsz.trans cells_span with
  | [c0, c1, c2, c3, c4, c5, c6, c7, c8, c9, c10, c11, c12, c13], _ =>
    obtain ⟨fuel, hf⟩ := h
    obtain ⟨xs, n, _, hx, _, hlen, hg⟩ := DataW.trod_struct Tryd.underlying80 hf
    have s0 : xs[0]? = some (xs[0]'(by rw [hlen]; decide)) := List.getElem?_eq_getElem _
    have s1 : xs[1]? = some (xs[1]'(by rw [hlen]; decide)) := List.getElem?_eq_getElem _
    have t0 : DataW.trod enc Tryd.prog w base spare held n 24 [c0, c1, c2, c3, c4, c5, c6] = xs[0]? := by simpa [cells_cron, Value.cells] using hg 0 _ rfl
    have t1 : DataW.trod enc Tryd.prog w base spare held n 24 [c7, c8, c9, c10, c11, c12, c13] = xs[1]? := by simpa [cells_cron, Value.cells] using hg 1 _ rfl
    obtain ⟨ai, ah, ad, am, aw, aa, ab, rfl, rfl, rfl, rfl, rfl, rfl, rfl, f1⟩ := cron_list (t0.trans s0)
    obtain ⟨bi, bh, bd, bm, bw, ba, bb, rfl, rfl, rfl, rfl, rfl, rfl, rfl, f2⟩ := cron_list (t1.trans s1)
    exact ⟨ai, ah, ad, am, aw, bi, bh, bd, bm, bw, aa, ab, ba, bb, f1, f2, rfl⟩
end
end Go.Proofs.YthelnkoohbnjpaaDoor
namespace Go.Proofs.YthelnkoohbnjpaaDoor
open Go.ChangeShapes Go.WideShapes Go.ChangeAt Go.RowKit
set_option linter.unusedVariables false
theorem cells_trig : Tryd.prog.cellsOf 82 = 17 := by kernel_rfl
section
variable {H : Type} {enc : TypeId × Value → H} {w : World} {base : Nat} {spare : Nat → Bool} {held : Bool}
set_option maxRecDepth 100000 in
theorem span_list {fuel : Nat} {x : DataW H × List MemPlace} {c0 c1 c2 c3 c4 c5 c6 c7 c8 c9 c10 c11 c12 c13 : Value} (hf : DataW.trod enc Tryd.prog w base spare held fuel 80 [c0, c1, c2, c3, c4, c5, c6, c7, c8, c9, c10, c11, c12, c13] = some x) :
    ∃ (ai ah ad am aw bi bh bd bm bw : Nat) (aa ab ba bb : Bool), Cr.fits ⟨ai, ah, ad, am, aw, aa, ab⟩ ∧ Cr.fits ⟨bi, bh, bd, bm, bw, ba, bb⟩ ∧ [c0, c1, c2, c3, c4, c5, c6, c7, c8, c9, c10, c11, c12, c13] = [.int .u64 (ai : Int), .int .u64 (ah : Int), .int .u64 (ad : Int), .int .u64 (am : Int), .int .u64 (aw : Int), .bool aa, .bool ab, .int .u64 (bi : Int), .int .u64 (bh : Int), .int .u64 (bd : Int), .int .u64 (bm : Int), .int .u64 (bw : Int), .bool ba, .bool bb] := by
  obtain ⟨xs, n, _, hx, _, hlen, hg⟩ := DataW.trod_struct Tryd.underlying80 hf
  have s0 : xs[0]? = some (xs[0]'(by rw [hlen]; decide)) := List.getElem?_eq_getElem _
  have s1 : xs[1]? = some (xs[1]'(by rw [hlen]; decide)) := List.getElem?_eq_getElem _
  have t0 : DataW.trod enc Tryd.prog w base spare held n 24 [c0, c1, c2, c3, c4, c5, c6] = xs[0]? := by simpa [cells_cron] using hg 0 _ rfl
  have t1 : DataW.trod enc Tryd.prog w base spare held n 24 [c7, c8, c9, c10, c11, c12, c13] = xs[1]? := by simpa [cells_cron] using hg 1 _ rfl
  obtain ⟨ai, ah, ad, am, aw, aa, ab, rfl, rfl, rfl, rfl, rfl, rfl, rfl, f1⟩ := cron_list (t0.trans s0)
  obtain ⟨bi, bh, bd, bm, bw, ba, bb, rfl, rfl, rfl, rfl, rfl, rfl, rfl, f2⟩ := cron_list (t1.trans s1)
  exact ⟨ai, ah, ad, am, aw, bi, bh, bd, bm, bw, aa, ab, ba, bb, f1, f2, rfl⟩
set_option maxRecDepth 100000 in
theorem trig_list {fuel : Nat} {x : DataW H × List MemPlace} {l : List Value} (hl : l.length = 17) (hf : DataW.trod enc Tryd.prog w base spare held fuel 82 l = some x) :
    ∃ (kind target act : Int) (ai ah ad am aw bi bh bd bm bw : Nat) (aa ab ba bb : Bool), Cr.fits ⟨ai, ah, ad, am, aw, aa, ab⟩ ∧ Cr.fits ⟨bi, bh, bd, bm, bw, ba, bb⟩ ∧ (Lit.int .i64 kind).wf = true ∧ (Lit.int .i64 target).wf = true ∧ (Lit.int .i64 act).wf = true ∧
      l = [.int .i64 kind, .int .i64 target, .int .i64 act, .int .u64 (ai : Int), .int .u64 (ah : Int), .int .u64 (ad : Int), .int .u64 (am : Int), .int .u64 (aw : Int), .bool aa, .bool ab, .int .u64 (bi : Int), .int .u64 (bh : Int), .int .u64 (bd : Int), .int .u64 (bm : Int), .int .u64 (bw : Int), .bool ba, .bool bb] := by
  match l, hl with
  | [k0, k1, k2, c0, c1, c2, c3, c4, c5, c6, c7, c8, c9, c10, c11, c12, c13], _ =>
    obtain ⟨xs, n, _, hx, _, hlen, hg⟩ := DataW.trod_struct Tryd.underlying82 hf
    have one : ∀ (i : Nat) (c : Value), i < 4 → (DataW.trod enc Tryd.prog w base spare held n 3 [c] = xs[i]?) → ∃ k : Int, c = .int .i64 k ∧ (Lit.int .i64 k).wf = true := by
      intro i c hi ht
      have hs : xs[i]? = some (xs[i]'(by rw [hlen]; exact hi)) := List.getElem?_eq_getElem _
      obtain ⟨k, hc, _, wf⟩ := DataW.trod_int Tryd.underlying3 (ht.trans hs)
      exact ⟨k, by simpa using hc, wf⟩
    obtain ⟨a0, rfl, w0⟩ := one 0 k0 (by omega) (by simpa [rows_cells_int] using hg 0 _ rfl)
    obtain ⟨a1, rfl, w1⟩ := one 1 k1 (by omega) (by simpa [rows_cells_int] using hg 1 _ rfl)
    obtain ⟨a2, rfl, w2⟩ := one 2 k2 (by omega) (by simpa [rows_cells_int] using hg 2 _ rfl)
    have s3 : xs[3]? = some (xs[3]'(by rw [hlen]; decide)) := List.getElem?_eq_getElem _
    have t3 : DataW.trod enc Tryd.prog w base spare held n 80 [c0, c1, c2, c3, c4, c5, c6, c7, c8, c9, c10, c11, c12, c13] = xs[3]? := by simpa [cells_span, rows_cells_int] using hg 3 _ rfl
    obtain ⟨ai, ah, ad, am, aw, bi, bh, bd, bm, bw, aa, ab, ba, bb, f1, f2, e⟩ := span_list (t3.trans s3)
    exact ⟨a0, a1, a2, ai, ah, ad, am, aw, bi, bh, bd, bm, bw, aa, ab, ba, bb, f1, f2, w0, w1, w2, by rw [e]⟩
set_option maxRecDepth 100000 in
theorem open_trig {r : Reach} {b0 : Nat} {v : Value} {d : DataW H} {p : List MemPlace} (hv : Value.okWide Tryd.prog w r b0 82 v) (h : DataW.Trod enc Tryd.prog w base spare held 82 v d p) :
    ∃ (kind target act : Int) (ai ah ad am aw bi bh bd bm bw : Nat) (aa ab ba bb : Bool), Cr.fits ⟨ai, ah, ad, am, aw, aa, ab⟩ ∧ Cr.fits ⟨bi, bh, bd, bm, bw, ba, bb⟩ ∧ (Lit.int .i64 kind).wf = true ∧ (Lit.int .i64 target).wf = true ∧ (Lit.int .i64 act).wf = true ∧
      v = .agg #[.int .i64 kind, .int .i64 target, .int .i64 act, .int .u64 (ai : Int), .int .u64 (ah : Int), .int .u64 (ad : Int), .int .u64 (am : Int), .int .u64 (aw : Int), .bool aa, .bool ab, .int .u64 (bi : Int), .int .u64 (bh : Int), .int .u64 (bd : Int), .int .u64 (bm : Int), .int .u64 (bw : Int), .bool ba, .bool bb] := by
  obtain ⟨cs, rfl, hsz⟩ := okWide_struct Tryd.underlying82 hv
  obtain ⟨l⟩ := cs
  obtain ⟨fuel, hf⟩ := h
  obtain ⟨kind, target, act, ai, ah, ad, am, aw, bi, bh, bd, bm, bw, aa, ab, ba, bb, f1, f2, w0, w1, w2, e⟩ := trig_list (by simpa using hsz.trans cells_trig) (by simpa [Value.cells] using hf)
  exact ⟨kind, target, act, ai, ah, ad, am, aw, bi, bh, bd, bm, bw, aa, ab, ba, bb, f1, f2, w0, w1, w2, by rw [e]⟩
end
end Go.Proofs.YthelnkoohbnjpaaDoor
namespace Go.Proofs.YthelnkoohbnjpaaDoor
open Go.ChangeShapes Go.WideShapes Go.ChangeAt Go.RowKit
set_option linter.unusedVariables false
theorem cells_plan : Tryd.prog.cellsOf 42 = 18 := by kernel_rfl
theorem cells_pace4 : Tryd.prog.cellsOf 39 = 4 := by kernel_rfl
theorem cells_string1 : Tryd.prog.cellsOf 9 = 1 := by kernel_rfl
theorem cells_trigs : Tryd.prog.cellsOf 40 = 1 := by kernel_rfl
section
variable {H : Type} {enc : TypeId × Value → H} {w : World} {base : Nat} {spare : Nat → Bool} {held : Bool}
theorem pace_list {fuel : Nat} {x : DataW H × List MemPlace} {c0 c1 c2 c3 : Value} (hf : DataW.trod enc Tryd.prog w base spare held fuel 39 [c0, c1, c2, c3] = some x) :
    ∃ a b c d : Int, [c0, c1, c2, c3] = [.int .i64 a, .int .i64 b, .int .i64 c, .int .i64 d] := by
  obtain ⟨xs, n, _, hx, _, hlen, hg⟩ := DataW.trod_struct Tryd.underlying39 hf
  have one : ∀ (i : Nat) (c : Value), i < 4 → (DataW.trod enc Tryd.prog w base spare held n 3 [c] = xs[i]?) → ∃ k : Int, c = .int .i64 k := by
    intro i c hi ht
    have hs : xs[i]? = some (xs[i]'(by rw [hlen]; exact hi)) := List.getElem?_eq_getElem _
    obtain ⟨k, hc, _, _⟩ := DataW.trod_int Tryd.underlying3 (ht.trans hs)
    exact ⟨k, by simpa using hc⟩
  obtain ⟨k0, rfl⟩ := one 0 c0 (by omega) (by simpa [rows_cells_int, Value.cells] using hg 0 _ rfl)
  obtain ⟨k1, rfl⟩ := one 1 c1 (by omega) (by simpa [rows_cells_int, Value.cells] using hg 1 _ rfl)
  obtain ⟨k2, rfl⟩ := one 2 c2 (by omega) (by simpa [rows_cells_int, Value.cells] using hg 2 _ rfl)
  obtain ⟨k3, rfl⟩ := one 3 c3 (by omega) (by simpa [rows_cells_int, Value.cells] using hg 3 _ rfl)
  exact ⟨k0, k1, k2, k3, rfl⟩
/-- a list of triggers -/
theorem trigs_list {fuel : Nat} {c : Value} {x : DataW H × List MemPlace} (hf : DataW.trod enc Tryd.prog w base spare held fuel 40 [c] = some x) :
    ∃ (l : List Trg) (A : Option Addr) (cap : Nat), c = .slice A l.length cap ∧ l.length ≤ cap ∧ cap ≤ maxLen ∧ (∀ t ∈ l, t.fits) ∧ Tide.ListIn w 17 Trg.enc c l := by
  have h1 : ∃ a len cap, c = .slice a len cap := by
    rcases Go.Deep.open_slice Tryd.underlying40 hf with ⟨hcs, _⟩ | ⟨a, len, cap, _, _, _, _, hcs, _⟩
    · exact ⟨none, 0, 0, by simpa using hcs⟩
    · exact ⟨some a, len, cap, by simpa using hcs⟩
  refine open_list Tryd.underlying40 cells_trig (by decide) Trg.enc_length (fun n cs y hl hy => ?_) h1 (d := x.1) (p := x.2) ⟨fuel, by obtain ⟨a, len, cap, rfl⟩ := h1; simpa [Value.cells] using hf⟩
  obtain ⟨kind, target, act, ai, ah, ad, am, aw, bi, bh, bd, bm, bw, aa, ab, ba, bb, f1, f2, _, _, _, e⟩ := trig_list hl hy
  exact ⟨⟨kind, target, act, ⟨ai, ah, ad, am, aw, aa, ab⟩, ⟨bi, bh, bd, bm, bw, ba, bb⟩⟩, e, f1, f2⟩
set_option maxRecDepth 100000 in
set_option maxHeartbeats 1600000 in
theorem plan_list {fuel : Nat} {x : DataW H × List MemPlace} {l : List Value} (hl : l.length = 18) (hf : DataW.trod enc Tryd.prog w base spare held fuel 42 l = some x) :
    ∃ (p : Pln) (A : Option Addr) (cap : Nat), l = (plnC p (.slice A p.trigs.length cap)).toList ∧ p.trigs.length ≤ cap ∧ cap ≤ maxLen ∧ (∀ t ∈ p.trigs, t.fits) ∧ p.name.size ≤ maxLen ∧ Tide.ListIn w 17 Trg.enc (.slice A p.trigs.length cap) p.trigs := by
  match l, hl with
  | [s0, k1, k2, k3, k4, k5, k6, k7, k8, u0, u1, u2, u3, d0, d1, d2, d3, tv], _ =>
    obtain ⟨xs, n, _, hx, _, hlen, hg⟩ := DataW.trod_struct Tryd.underlying42 hf
    have one : ∀ (i : Nat) (c : Value), i < 12 → (DataW.trod enc Tryd.prog w base spare held n 3 [c] = xs[i]?) → ∃ k : Int, c = .int .i64 k := by
      intro i c hi ht
      have hs : xs[i]? = some (xs[i]'(by rw [hlen]; exact hi)) := List.getElem?_eq_getElem _
      obtain ⟨k, hc, _, wf⟩ := DataW.trod_int Tryd.underlying3 (ht.trans hs)
      exact ⟨k, by simpa using hc⟩
    have x0 : xs[0]? = some (xs[0]'(by rw [hlen]; decide)) := List.getElem?_eq_getElem _
    have t0 : DataW.trod enc Tryd.prog w base spare held n 9 [s0] = xs[0]? := by simpa [cells_string1] using hg 0 _ rfl
    obtain ⟨name, hs0, _, hnm⟩ := DataW.trod_string Tryd.underlying9 (t0.trans x0)
    obtain rfl : s0 = .string name := by simpa using hs0
    obtain ⟨a1, rfl⟩ := one 1 k1 (by omega) (by simpa [cells_string1, rows_cells_int] using hg 1 _ rfl)
    obtain ⟨a2, rfl⟩ := one 2 k2 (by omega) (by simpa [cells_string1, rows_cells_int] using hg 2 _ rfl)
    obtain ⟨a3, rfl⟩ := one 3 k3 (by omega) (by simpa [cells_string1, rows_cells_int] using hg 3 _ rfl)
    obtain ⟨a4, rfl⟩ := one 4 k4 (by omega) (by simpa [cells_string1, rows_cells_int] using hg 4 _ rfl)
    obtain ⟨a5, rfl⟩ := one 5 k5 (by omega) (by simpa [cells_string1, rows_cells_int] using hg 5 _ rfl)
    obtain ⟨a6, rfl⟩ := one 6 k6 (by omega) (by simpa [cells_string1, rows_cells_int] using hg 6 _ rfl)
    obtain ⟨a7, rfl⟩ := one 7 k7 (by omega) (by simpa [cells_string1, rows_cells_int] using hg 7 _ rfl)
    obtain ⟨a8, rfl⟩ := one 8 k8 (by omega) (by simpa [cells_string1, rows_cells_int] using hg 8 _ rfl)
    have x9 : xs[9]? = some (xs[9]'(by rw [hlen]; decide)) := List.getElem?_eq_getElem _
    have x10 : xs[10]? = some (xs[10]'(by rw [hlen]; decide)) := List.getElem?_eq_getElem _
    have x11 : xs[11]? = some (xs[11]'(by rw [hlen]; decide)) := List.getElem?_eq_getElem _
    have t9 : DataW.trod enc Tryd.prog w base spare held n 39 [u0, u1, u2, u3] = xs[9]? := by simpa [cells_string1, rows_cells_int, cells_pace4] using hg 9 _ rfl
    have t10 : DataW.trod enc Tryd.prog w base spare held n 39 [d0, d1, d2, d3] = xs[10]? := by simpa [cells_string1, rows_cells_int, cells_pace4] using hg 10 _ rfl
    have t11 : DataW.trod enc Tryd.prog w base spare held n 40 [tv] = xs[11]? := by simpa [cells_string1, rows_cells_int, cells_pace4, cells_trigs] using hg 11 _ rfl
    obtain ⟨b0, b1, b2, b3, e9⟩ := pace_list (t9.trans x9)
    obtain ⟨c0, c1, c2, c3, e10⟩ := pace_list (t10.trans x10)
    obtain ⟨ts, A, cap, rfl, h1, h2, h3, h4⟩ := trigs_list (t11.trans x11)
    cases e9
    cases e10
    exact ⟨⟨name, a1, a2, a3, a4, a5, a6, a7, a8, ⟨b0, b1, b2, b3⟩, ⟨c0, c1, c2, c3⟩, ts⟩, A, cap, rfl, h1, h2, h3, hnm, h4⟩
set_option maxRecDepth 100000 in
theorem open_plan {r : Reach} {b0 : Nat} {v : Value} {d : DataW H} {q : List MemPlace} (hv : Value.okWide Tryd.prog w r b0 42 v) (h : DataW.Trod enc Tryd.prog w base spare held 42 v d q) :
    ∃ (p : Pln) (A : Option Addr) (cap : Nat), v = plnV p (.slice A p.trigs.length cap) ∧ p.trigs.length ≤ cap ∧ cap ≤ maxLen ∧ (∀ t ∈ p.trigs, t.fits) ∧ p.name.size ≤ maxLen ∧ Tide.ListIn w 17 Trg.enc (.slice A p.trigs.length cap) p.trigs := by
  obtain ⟨cs, rfl, hsz⟩ := okWide_struct Tryd.underlying42 hv
  obtain ⟨l⟩ := cs
  obtain ⟨fuel, hf⟩ := h
  obtain ⟨p, A, cap, e, h1⟩ := plan_list (by simpa using hsz.trans cells_plan) (by simpa [Value.cells] using hf)
  exact ⟨p, A, cap, by rw [e]; rfl, h1⟩
end
end Go.Proofs.YthelnkoohbnjpaaDoor
namespace Go.Proofs.YthelnkoohbnjpaaDoor
open Go Go.ChangeShapes Go.WideShapes Go.ChangeAt Go.RowKit
set_option linter.unusedVariables false
section
variable {H : Type} {enc : TypeId × Value → H}
theorem handed_and_shaped {a : Assume} {C : Checked} {os : Os} {f : FuncId} {fn : Func} {s : ChangeSpec} {conds : List PathCond} {apart fresh handsOn again : Bool} {X : World → Array Value → Prop}
    (hX : ∀ (w w' : World) (args : Array Value), w.heap = w'.heap → X w args → X w' args)
    (own : ownKnob C.prog.godebug = none) (started : os.Started) (noInit : C.prog.inits.idxOf? f = none) (hfn : C.prog.funcs[f]? = some fn)
    (witness : ∃ (w : World) (tape : Tape) (i : Input), w.os = os ∧ (w.forCall tape i).Shaped C.prog ∧ i.vars = [] ∧ Input.okWide C.prog (w.forCall tape i) .any w.heap.size f i ∧
      ((s.pre enc C.prog fn conds apart (w.forCall tape i).memory i.args ∧ X (w.forCall tape i).memory i.args) ∧ sizedMet enc C.prog fn (OpenSpec.ofChange s) apart (w.forCall tape i).memory i.args) ∧ a.holds C.prog (lone (Frame.enter C.prog f i.args .normal) [] (w.forCall tape i)))
    (contract : ∀ (W : World) (base : Nat) (args : Array Value) (ds gs : List (DataW H)) (before : List MemPlace),
      (∀ (j : Nat) t v, fn.params[j]? = some t → args[j]? = some v → Value.okWide C.prog W .any base t v) →
      DataW.Whole enc C.prog fn.params.toList s.vars apart W args.toList ds gs before →
      (DataW.weightsEach C.prog (fn.params.toList ++ s.plain.varTypes C.prog) (ds ++ gs)).all (· ≤ reachBytes) = true → X W args → W.ShapedOpen C.prog →
      Calls C.prog f args W fun e W' => ∃ v, e = .returned v ∧ s.post enc C.prog fn apart fresh handsOn again W args v W') :
    ReturnsInHanded a C os f .any (fun w args => (s.pre enc C.prog fn conds apart w args ∧ X w args) ∧ sizedMet enc C.prog fn (OpenSpec.ofChange s) apart w args) (s.post enc C.prog fn apart fresh handsOn again) := by
  refine returnsInHanded_of_calls own started noInit witness ?_
  intro w tape i _ hsh _ hok hpre _
  obtain ⟨_, _, _, fn', hfn', _, _, _, _, hval⟩ := hok
  have e : fn' = fn := Option.some.inj (hfn'.symm.trans hfn)
  subst e
  obtain ⟨⟨⟨ds, gs, before, hw, _⟩, hx⟩, hz⟩ := hpre
  have hw' := DataW.Whole.of_heap (w' := w.forCall tape i) (by rfl) hw
  refine (contract (w.forCall tape i) w.heap.size i.args ds gs before hval hw' (hz.weights hw) (hX _ _ _ (by rfl) hx) hsh).mono fun e W' ⟨v, he, hp⟩ => ?_
  subst he
  exact ChangeSpec.post_blind hp
end
end Go.Proofs.YthelnkoohbnjpaaDoor
namespace Go.Proofs.YthelnkoohbnjpaaDoor
open Go.ChangeShapes Go.WideShapes Go.ChangeAt Go.RowKit
set_option linter.unusedVariables false
theorem powTab_laid {W : World} (hL : laidMetH Tryd.prog Rows.planBackRow.laid W) : PowTab W := by
  rw [MakeChecks.laidMetH_plain _ _ _ (by kernel_rfl)] at hL
  have h3 : laidMet Tryd.prog [("internal/strconv.uint64pow10", Lib.tabData .u64 Lib.pow10Tab), ("unicode/utf8.acceptRanges", Rows.laid_unicode_utf8_acceptRanges), ("unicode/utf8.first", Rows.laid_unicode_utf8_first)] W := laidMet.tail (laidMet.tail (show laidMet Tryd.prog (("math/bits.deBruijn32tab", Rows.laid_math_bits_deBruijn32tab) :: ("math/bits.deBruijn64tab", Rows.laid_math_bits_deBruijn64tab) :: [("internal/strconv.uint64pow10", Lib.tabData .u64 Lib.pow10Tab), ("unicode/utf8.acceptRanges", Rows.laid_unicode_utf8_acceptRanges), ("unicode/utf8.first", Rows.laid_unicode_utf8_first)]) W from hL))
  exact Lib.tabIs_of_head (g := 1) (by kernel_rfl) (by kernel_rfl) Tryd.underlying147 Tryd.underlying22 (by kernel_rfl) (by kernel_rfl) h3
end Go.Proofs.YthelnkoohbnjpaaDoor
namespace Go.Proofs.YthelnkoohbnjpaaDoor
open Go.ChangeShapes Go.WideShapes Go.ChangeAt Go.RowKit
set_option linter.unusedVariables false
theorem planBack_start (pl : Pln) (A : Option Addr) (cap : Nat) {w : World} (hc1 : pl.trigs.length ≤ cap) (hc2 : cap ≤ maxLen) (hft : ∀ t ∈ pl.trigs, t.fits) (hnm : pl.name.size ≤ maxLen) (hli : Tide.ListIn w 17 Trg.enc (.slice A pl.trigs.length cap) pl.trigs)
    (s : ByteArray) (ws : s.size ≤ maxLen) (W : World) (hsh : W.ShapedOpen Tryd.prog) (hL : laidMetH Tryd.prog Rows.planBackRow.laid W) (hw : W = w) :
    Calls Tryd.prog 8 #[plnV pl (.slice A pl.trigs.length cap), .string s] W fun e w1 => e = .returned (.bool true) ∧ Below W.heap.size W w1 := by
  subst hw
  have h9 : maxLen = 9223372036854775807 := rfl
  obtain ⟨m, hm⟩ := Tryd.laysM146.s1_3 W hsh
  exact planBack_walk pl A cap s m W hli hft (by omega) (by omega) (powTab_laid hL) hm (by omega)
set_option maxHeartbeats 1000000 in
set_option maxRecDepth 100000 in
theorem planBack_lifted (os : Os) (started : os.Started) (H : Type) (enc : TypeId × Value → H) :
    ReturnsInHanded {} Tryd.checked os 8 .any (fun w args => (Rows.planBackSpec.pre enc Tryd.prog Tryd.f8 [] false w args ∧ laidMetH Tryd.prog Rows.planBackRow.laid w) ∧ sizedMet enc Tryd.prog Tryd.f8 (OpenSpec.ofChange Rows.planBackSpec) false w args) (Rows.planBackSpec.post enc Tryd.prog Tryd.f8 false true false false) := by
  refine handed_and_shaped (C := Tryd.checked) (X := fun w _ => laidMetH Tryd.prog Rows.planBackRow.laid w) (fun _ _ _ hh h => h.of_heap hh) (show ownKnob Tryd.prog.godebug = none by kernel_rfl) started (by kernel_rfl) Tryd.func8
    (ChangeSpec.witness_shaped (enc := enc) (C := Tryd.checked) (os := os) (X := fun w _ => laidMetH Tryd.prog Rows.planBackRow.laid w) false (World.laidAll Tryd.prog os Rows.planBackRow.laid) #[(.agg #[.string ⟨#[]⟩, .int .i64 0, .int .i64 0, .int .i64 0, .int .i64 0, .int .i64 0, .int .i64 0, .int .i64 0, .int .i64 0, .int .i64 0, .int .i64 0, .int .i64 0, .int .i64 0, .int .i64 0, .int .i64 0, .int .i64 0, .int .i64 0, .slice none 0 0]), .string ⟨#[]⟩] 8 (World.laidAll_os _ _ _)
      (World.shaped_of_ZipB (by kernel_rfl) (by kernel_rfl)) (by kernel_rfl) (by kernel_rfl) (by kernel_rfl)
      (by rw [MakeChecks.laidMetH_plain _ _ _ (by kernel_rfl)]; exact laidMet_laidAll _ (by kernel_rfl) (by kernel_rfl))) ?_
  intro W base args ds gs before hval0 hW hz hL hsh
  have hval : ∀ (j : Nat) t v, Tryd.f8.params[j]? = some t → args[j]? = some v → Value.okWide Tryd.prog W .any base t v := hval0
  have hW' := hW
  obtain ⟨p, q, hA0, hV, rfl, hfz, hnd⟩ := hW
  have hA : DataW.TrodAll enc Tryd.prog W 0 (fun _ => true) true Tryd.f8.params.toList args.toList ds p := hA0
  rw [Tryd.params8] at hA hval
  obtain ⟨v0, vs0, d0, ds0, p0, q0, hargs, rfl, rfl, h0, r0⟩ := trodAll_cons hA
  obtain ⟨v1, vs1, d1, ds1, p1, q1, rfl, rfl, rfl, h1, r1⟩ := trodAll_cons r0
  obtain ⟨rfl, rfl, rfl⟩ := trodAll_nil r1
  obtain rfl : args = #[v0, v1] := by cases args; simp_all
  obtain ⟨rfl, rfl⟩ := trodVars_none hV
  simp only [List.append_nil] at hW'
  have hlaid : laidOutB Tryd.prog = true := by kernel_rfl
  obtain ⟨pl, A, cap, rfl, hc1, hc2, hft, hnm, hli⟩ := open_plan (hval 0 42 v0 rfl rfl) h0
  obtain ⟨a1, rfl, rfl, rfl, w1⟩ := Go.ChangeMaps.open_string Tryd.underlying9 (hval 1 9 v1 rfl rfl) h1
  try simp only [List.append_nil, List.nil_append] at hW'
  try simp only [List.append_nil, List.nil_append] at hA0
  refine (planBack_start pl A cap hc1 hc2 hft hnm hli a1 w1 W hsh hL rfl).mono fun e W' ⟨he, hg⟩ => ?_
  subst he
  exact ⟨_, rfl, Tide.law_post rfl hlaid (by rw [Tryd.params8]; intro t ht; simp at ht; rcases ht with rfl | rfl <;> exact ⟨by kernel_rfl, of_decide_eq_true (by kernel_rfl)⟩) hW' hA0 (fun _ _ _ => (trodAll_cons_mk (shut_bool Tryd.underlying4 _) trodAll_mk0)) rfl rfl hg (ok_one (by kernel_rfl) rfl (okWide_bool_mk Tryd.underlying4 _))⟩

theorem planBack_over : Rows.planBackRow.holds Tryd.pinned (OpenSpec.ofChange Rows.planBackSpec) :=
  OpenClaim.holds_of_wide 8 Tryd.f8 rfl rfl rfl rfl rfl rfl rfl ⟨rfl, rfl, rfl, rfl, rfl⟩ rfl rfl rfl rfl rfl (by kernel_rfl) Tryd.func8 (by kernel_rfl)
    (of_decide_eq_true (by kernel_rfl)) (by unfold Func.isWrapper; first | (rw [if_pos (by decide +kernel)]; kernel_rfl) | (rw [if_neg (by decide +kernel)]; exact ⟨rfl, rfl⟩))
    (fun os started H enc _ => planBack_lifted os started H enc)

/-- THE STATEMENT: the tied card -/
theorem planBack_proved : Rows.PlanBackCardSaid :=
  Claim7.holds_tied_plain_at .later [] [.data, .data, .data, .data, .pinned] true (true, "4fde203b0cfd1303f4caab14db9e9fa84f80230bbc730a976b11a4665dc7114e") false planBack_over (fun _ h => by cases h) (by kernel_rfl) (fun _ h => by cases h) planBack_row_tie rfl ⟨rfl, rfl⟩ (by kernel_rfl) rfl
    (fun f fn hf hfn => by
      obtain rfl : f = 8 := Option.some.inj ((show Tryd.prog.funcNamed "tidewheel/tidekeep.PlanBack" = some 8 by kernel_rfl).symm.trans hf) |>.symm
      obtain rfl : fn = Tryd.f8 := (Option.some.inj (Tryd.func8.symm.trans hfn)).symm
      exact ⟨by kernel_rfl, fun j t ht => by
        rw [Tryd.params8] at ht
        have hm : t ∈ [42, 9] := by simpa using Array.mem_of_getElem? ht
        have hall : ([42, 9].all fun u => !Tryd.prog.wantsStandIn u) = true := by kernel_rfl
        exact (show Tryd.prog.wantsStandIn t = false by simpa using List.all_eq_true.1 hall t hm)⟩)
    (by kernel_rfl)
#print axioms planBack_proved
end Go.Proofs.YthelnkoohbnjpaaDoor
