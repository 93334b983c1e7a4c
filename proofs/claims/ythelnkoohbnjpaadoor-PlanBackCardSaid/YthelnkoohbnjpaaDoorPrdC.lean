/- Words in memory, and the places that numbers are read into. -/
import Derived.Test.YthelnkoohbnjpaaDoorZPrd
import Derived.Test.YthelnkoohbnjpaaDoorZBase
import Derived.Test.YthelnkoohbnjpaaDoorRdnC
set_option linter.unusedVariables false
set_option linter.unusedSimpArgs false
namespace Go.Proofs.YthelnkoohbnjpaaDoor
open Go.RowKit
set_option linter.unusedVariables false
theorem chg_cell {S : Nat → Prop} {w w' : World} (h : Tide.Chg S w w') {b : Nat} (hb : b < w.heap.size) (hs : ¬ S b) (o : Nat) : w'.cell? ⟨b, o, none⟩ = w.cell? ⟨b, o, none⟩ := by
  unfold World.cell?
  show (match w'.heap[b]? with | _ => _) = (match w.heap[b]? with | _ => _)
  rw [h.block b hb hs]
/-- words from a place on -/
structure WdsAt (w : World) (b off : Nat) (ws : List ByteArray) : Prop where
  cell : ∀ i x, ws[i]? = some x → w.cell? ⟨b, off + i, none⟩ = some (.string x)
  lt : b < w.heap.size
theorem WdsAt.chg {C : Nat → Prop} {w w' : World} {b off : Nat} {ws : List ByteArray} (h : WdsAt w b off ws) (hc : Tide.Chg C w w') (hs : ¬ C b) : WdsAt w' b off ws :=
  ⟨fun i x hi => by
    exact (chg_cell hc h.lt hs _).trans (h.cell i x hi), Nat.lt_of_lt_of_le h.lt hc.size⟩
theorem WdsAt.below {w w' : World} {b off : Nat} {ws : List ByteArray} (h : WdsAt w b off ws) (hb : Below w.heap.size w w') : WdsAt w' b off ws :=
  h.chg (C := fun _ => False) (Tide.Chg.of_below hb (Nat.le_refl _)) (fun h => h)
theorem WdsAt.drop {w : World} {b off : Nat} {ws : List ByteArray} (h : WdsAt w b off ws) (k : Nat) : WdsAt w b (off + k) (ws.drop k) :=
  ⟨fun i x hi => by rw [List.getElem?_drop] at hi; have := h.cell _ x hi; rwa [← Nat.add_assoc] at this, h.lt⟩
theorem WdsAt.take {w : World} {b off : Nat} {ws : List ByteArray} (h : WdsAt w b off ws) (k : Nat) : WdsAt w b off (ws.take k) := by
  refine ⟨fun i x hi => ?_, h.lt⟩
  rw [List.getElem?_take] at hi
  split at hi
  · exact h.cell i x hi
  · cases hi
theorem WdsAt.of_at {w : World} {b : Nat} {T : TypeId} {ws : List ByteArray} (h : Tide.At w b T (ws.map Value.string).toArray) : WdsAt w b 0 ws :=
  ⟨fun i x hi => by rw [Nat.zero_add]; exact h.here (by rw [List.getElem?_toArray, List.getElem?_map, hi]; rfl), h.inside⟩
/-- the cells behind the first k numbers -/
def setK (cs : Array Value) (os : List Nat) (ws : List ByteArray) : Nat → Array Value
  | 0 => cs
  | k + 1 => (setK cs os ws k).setIfInBounds (os.getD k 0) (.int .i64 (wV (Tide.pieceAt ws k)))
theorem setK_size (cs : Array Value) (os : List Nat) (ws : List ByteArray) : ∀ k, (setK cs os ws k).size = cs.size
  | 0 => rfl
  | k + 1 => by unfold setK; rw [Array.size_setIfInBounds]; exact setK_size cs os ws k
def ptrs (g : Nat) (os : List Nat) : Array Value := (os.map fun o => Value.pointer (some ⟨g, o, none⟩)).toArray
/-- behind read: is all right? what was written -/
def NumsPost (w : World) (g : Nat) (T : TypeId) (cs : Array Value) (os : List Nat) (ws : List ByteArray) (e : Ending) (w' : World) : Prop :=
  e = .returned (.bool (wordsOk ws os.length)) ∧ (∃ k, k ≤ os.length ∧ Tide.At w' g T (setK cs os ws k) ∧ (wordsOk ws os.length = true → k = os.length)) ∧ Tide.Chg (fun b => b = g) w w'
/-- the first k words are numbers -/
def firstOk (ws : List ByteArray) (k : Nat) : Prop := ∀ i x, i < k → ws[i]? = some x → wOk x = true
theorem words_all {ws : List ByteArray} {n : Nat} (hn : ws.length = n) (h : firstOk ws n) : wordsOk ws n = true := by
  unfold wordsOk
  rw [decide_eq_true hn, Bool.true_and, List.all_eq_true]
  intro x hx
  obtain ⟨i, hi⟩ := List.mem_iff_getElem?.1 hx
  exact h i x (by have := Tide.get_lt hi; omega) hi
theorem words_bad {ws : List ByteArray} {n i : Nat} {x : ByteArray} (h : ws[i]? = some x) (hx : wOk x = false) : wordsOk ws n = false := by
  unfold wordsOk
  have : ws.all wOk = false := by rw [List.all_eq_false]; exact ⟨x, List.mem_of_getElem? h, by rw [hx]; simp⟩
  rw [this, Bool.and_false]
theorem words_few {ws : List ByteArray} {n : Nat} (h : ws.length ≠ n) : wordsOk ws n = false := by unfold wordsOk; rw [decide_eq_false h]; rfl
theorem firstOk_next {ws : List ByteArray} {k : Nat} {x : ByteArray} (h : firstOk ws k) (hk : ws[k]? = some x) (hx : wOk x = true) : firstOk ws (k + 1) := fun i y hi hy => by
  rcases Nat.lt_succ_iff_lt_or_eq.mp hi with h1 | h1
  · exact h i y h1 hy
  · subst h1; rw [hk] at hy; cases hy; exact hx
end Go.Proofs.YthelnkoohbnjpaaDoor
