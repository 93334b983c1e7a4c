/- Parts of this claim: BldP, OpenList, OpenHaps. -/
import Derived.Great.BuildSlice
import Derived.Test.YtidonhndeohdlaaGreatWl03
set_option linter.unusedVariables false
set_option linter.unusedSimpArgs false
set_option maxRecDepth 100000
set_option maxHeartbeats 12800000
namespace Go.Proofs.YtidonhndeohdlaaGreat
open Go.RowKit
theorem bslice_law {P : Program} {ops : Array Oper} {rest : List Oper} {o : Oper} {a : Act} {w : World} {Q : Exit → Act → World → Prop} (hg : o.guard = none) (t e : TypeId) (len : Nat) (parts : Array (Nat × Operand)) (ho : o.op = .buildSlice t len parts) (l : List (Nat × Value)) (hp : parts.toList.map (fun y => (y.1, a.eval y.2)) = l)
  (cells : Array Value) (ie : TypeInfo) (z : Value) (hu : P.underlying t = some (.slice e)) (hie : P.info? e = some ie) (hz : ie.zero = some z) (hsmall : ¬ len * ie.size > 2 ^ 24) (hpos : ¬ len * ie.size = 0)
  (hf : Instr.fill (fun i => some (i * ie.size, ie.size)) ((Array.range (len * ie.size)).map (z.cells[· % z.cells.size]!)) l = some cells)
  (k : wpList P ops Q rest (a.put o.dst (.slice (some ⟨w.heap.size, 0, none⟩) len len)) (w.alloc (.cells cells e))) : wpList P ops Q (o :: rest) a w := by
 subst hp
 rw [← Array.toList_map] at hf
 exact wpList_buildSlice hg t e len parts ho cells ie z hu hie hz hsmall hpos hf k
theorem info_two {i : Option TypeInfo} {z : Option Value} {s : Nat} (h : i.map (fun i => (i.zero, i.size)) = some (z, s)) : ∃ j, i = some j ∧ j.zero = z ∧ j.size = s := by
 cases i with
 | none => cases h
 | some j => simp only [Option.map_some, Option.some.injEq, Prod.mk.injEq] at h; exact ⟨j, rfl, h.1, h.2⟩
open Go.ChangeShapes Go.WideShapes Go.ChangeAt Go.RowKit Go.Deep
section
variable {H : Type} {enc : TypeId × Value → H} {w : World} {base : Nat} {spare : Nat → Bool} {held : Bool}
theorem open_list {α : Type} {en : α → List Value} {Q : α → Prop} {t e : TypeId} {k : Nat} {v : Value} {d : DataW H} {p : List MemPlace} (ht : Tryz.prog.underlying t = some (.slice e)) (hC : Tryz.prog.cellsOf e = k) (hk : 0 < k) (hen : ∀ a, (en a).length = k)
  (helem : ∀ (n : Nat) (cs : List Value) (y : DataW H × List MemPlace), cs.length = k → DataW.trod enc Tryz.prog w base spare held n e cs = some y → ∃ a : α, cs = en a ∧ Q a)
  (h1 : ∃ a len cap, v = .slice a len cap) (h : DataW.Trod enc Tryz.prog w base spare held t v d p) : ∃ (l : List α) (A : Option Addr) (cap : Nat), v = .slice A l.length cap ∧ l.length ≤ cap ∧ cap ≤ maxLen ∧ (∀ a ∈ l, Q a) ∧ G.ListIn w k en v l := by
 obtain ⟨a0, len0, cap0, e1⟩ := h1
 subst e1
 obtain ⟨fuel, hf⟩ := h
 rcases open_slice ht hf with ⟨hcs, hx⟩ | ⟨a, len, cap, m, n, D, Pl, hcs, hb, hl, hm, hmm, hx, hi⟩
 ·simp [Value.cells] at hcs
  obtain ⟨rfl, rfl, rfl⟩ := hcs
  exact ⟨[], none, 0, rfl, Nat.le_refl 0, Nat.zero_le maxLen, fun row hr => absurd hr (by simp), none, 0, rfl, fun h0 => absurd h0 (by simp)⟩
 simp [Value.cells] at hcs
 obtain ⟨rfl, rfl, rfl⟩ := hcs
 have hlm : len0 ≤ m := by rw [hmm]; split <;> omega
 have hrow : ∀ i, i < len0 → ∃ x : α, Q x ∧ ∀ j u, (en x)[j]? = some u → w.cell? (a.add (i * k + j)) = some u := by
  intro i hlt
  obtain ⟨cs', hc, ht'⟩ := hi i (by omega)
  rw [hC] at hc
  obtain ⟨_, hcl, hat⟩ := World.cells?_some hc
  obtain ⟨x, hx1, hq⟩ := helem n cs' _ hcl ht'
  refine ⟨x, hq, fun j u hj => ?_⟩
  have hjl : j < k := by
   rw [← hen x]
   rcases Nat.lt_or_ge j (en x).length with hl' | hl'
   ·exact hl'
   rw [List.getElem?_eq_none hl'] at hj; cases hj
  rw [← Go.Deep.add_add, hat j hjl]
  rw [hx1]; exact hj
 obtain ⟨f, hf'⟩ : ∃ f : Fin len0 → α, ∀ i : Fin len0, Q (f i) ∧ ∀ j u, (en (f i))[j]? = some u → w.cell? (a.add (i.1 * k + j)) = some u :=
  ⟨fun i => Classical.choose (hrow i.1 i.2), fun i => Classical.choose_spec (hrow i.1 i.2)⟩
 have hlen : (List.ofFn f).length = len0 := by simp
 refine ⟨List.ofFn f, some a, cap0, by rw [hlen], by rw [hlen]; simpa using hl, hm, ?_, some a, cap0, by rw [hlen], ?_⟩
 ·intro x hx
  obtain ⟨i, rfl⟩ := List.mem_ofFn.1 hx
  exact (hf' i).1
 intro h0
 rw [hlen] at h0
 have hz : 0 < (en (f ⟨0, h0⟩)).length := by rw [hen]; exact hk
 have hc0 : w.cell? (a.add (0 * k + 0)) = some ((en (f ⟨0, h0⟩))[0]'hz) := (hf' ⟨0, h0⟩).2 0 _ (List.getElem?_eq_getElem _)
 have hs : a.spot = none := by
  have := cell_spot hc0
  simpa [Addr.add] using this
 obtain ⟨b, off, sp⟩ := a
 simp only at hs
 subst hs
 refine ⟨b, off, rfl, ?_, ?_⟩
 ·have := World.block_lt_of_cell? w _ hc0
  simpa [Addr.add] using this
 intro i x j u h1 h2
 have hlt : i < len0 := by
  rw [← hlen]
  rcases Nat.lt_or_ge i (List.ofFn f).length with hl' | hl'
  ·exact hl'
  rw [List.getElem?_eq_none hl'] at h1; cases h1
 rw [List.getElem?_ofFn, dif_pos hlt] at h1
 cases h1
 have := (hf' ⟨i, hlt⟩).2 j u h2
 rw [← this]
 unfold Addr.add
 congr 1
 by_cases h3 : i * k = 0 <;> by_cases h4 : j = 0 <;> simp [h3, h4, Nat.add_assoc]
end
open Go.ChangeShapes Go.WideShapes Go.ChangeAt Go.RowKit
theorem cells_hap : Tryz.prog.cellsOf 37 = 3 := by kernel_rfl
theorem open_haps {H : Type} {enc : TypeId × Value → H} {w : World} {base : Nat} {spare : Nat → Bool} {held : Bool} {r : Reach} {b0 : Nat} {v : Value} {d : DataW H} {p : List MemPlace}
  (hv : Value.okWide Tryz.prog w r b0 27 v) (h : DataW.Trod enc Tryz.prog w base spare held 27 v d p) : ∃ l, ArgRows w 3 v l :=
 open_rows Tryz.underlying27 cells_hap (by decide) (struct_ints Tryz.underlying37 (by kernel_rfl) (by intro i f hf; rcases i with _ | _ | _ | i <;> simp at hf <;> subst hf <;> rfl) cells_hap rfl) hv h
end Go.Proofs.YtidonhndeohdlaaGreat
