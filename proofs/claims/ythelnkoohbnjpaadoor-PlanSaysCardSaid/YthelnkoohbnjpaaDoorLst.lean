/- Plain facts on lists: a list whose head has been turned so far; the first for which something holds. -/
import Derived.Test.YthelnkoohbnjpaaDoorRow
set_option linter.unusedVariables false
set_option linter.unusedSimpArgs false
namespace Tide
def idxOf (o : Option Nat) : Int := match o with | none => -1 | some i => (i : Int)
section
variable {α β : Type}
/-- the first k are turned -/
def upTo (f : α → α) (l : List α) (k : Nat) : List α := (l.take k).map f ++ l.drop k
theorem upTo_zero (f : α → α) (l : List α) : upTo f l 0 = l := by simp [upTo]
theorem upTo_all (f : α → α) (l : List α) : upTo f l l.length = l.map f := by simp [upTo]
theorem upTo_length (f : α → α) (l : List α) (k : Nat) : (upTo f l k).length = l.length := by simp [upTo]; omega
theorem upTo_get (f : α → α) (l : List α) (k : Nat) : (upTo f l k)[k]? = l[k]? := by
  unfold upTo
  rcases Nat.lt_or_ge k l.length with h | h
  · rw [List.getElem?_append_right (by simp; omega)]
    simp; rw [Nat.min_eq_left (by omega), Nat.sub_self]; simp
  · rw [List.getElem?_eq_none h, List.getElem?_eq_none]; simp; omega
theorem drop_of_get {l : List α} {k : Nat} {a : α} (h : l[k]? = some a) : l.drop k = a :: l.drop (k + 1) := by
  have hl := get_lt h
  rw [List.drop_eq_getElem_cons hl]
  congr
  rw [List.getElem?_eq_getElem hl] at h; exact Option.some.inj h
theorem take_of_get {l : List α} {k : Nat} {a : α} (h : l[k]? = some a) : l.take (k + 1) = l.take k ++ [a] := by
  rw [List.take_add_one, h]; rfl
theorem upTo_succ {f : α → α} {l : List α} {k : Nat} {a : α} (h : l[k]? = some a) : (upTo f l k).set k (f a) = upTo f l (k + 1) := by
  have hl := get_lt h
  unfold upTo
  have e : k - (List.map f (List.take k l)).length = 0 := by simp; omega
  rw [drop_of_get h, take_of_get h, List.map_append, List.append_assoc, List.set_append_right _ _ (by simp; omega), e]
  simp
theorem upTo_same {f : α → α} {l : List α} {k : Nat} {a : α} (h : l[k]? = some a) (hf : f a = a) : upTo f l (k + 1) = upTo f l k := by
  unfold upTo
  rw [drop_of_get h, take_of_get h, List.map_append, List.append_assoc]
  simp [hf]
/-- the place of the first for which p holds -/
def firstAt (p : α → Bool) (l : List α) : Option Nat := l.findIdx? p
theorem firstAt_none {p : α → Bool} {l : List α} (h : ∀ (k : Nat) (a : α), l[k]? = some a → p a = false) : firstAt p l = none := by
  unfold firstAt
  rw [List.findIdx?_eq_none_iff]
  intro x hx
  obtain ⟨k, hk, e⟩ := List.mem_iff_getElem.1 hx
  exact h k x (by rw [List.getElem?_eq_getElem hk, e])
theorem firstAt_some {p : α → Bool} {l : List α} {i : Nat} {a : α} (h : ∀ (k : Nat) (b : α), k < i → l[k]? = some b → p b = false) (hi : l[i]? = some a) (ha : p a = true) : firstAt p l = some i := by
  unfold firstAt
  have hl := get_lt hi
  rw [List.findIdx?_eq_some_iff_getElem]
  rw [List.getElem?_eq_getElem hl] at hi
  refine ⟨hl, by rw [Option.some.inj hi]; exact ha, fun j hj => ?_⟩
  have := h j _ hj (List.getElem?_eq_getElem (by omega))
  simp [this]
theorem firstAt_spec {p : α → Bool} {l : List α} {i : Nat} (h : firstAt p l = some i) : ∃ a, l[i]? = some a ∧ p a = true ∧ ∀ (k : Nat) (b : α), k < i → l[k]? = some b → p b = false := by
  unfold firstAt at h
  rw [List.findIdx?_eq_some_iff_getElem] at h
  obtain ⟨hl, hp, hj⟩ := h
  refine ⟨_, List.getElem?_eq_getElem hl, hp, fun k b hk hb => ?_⟩
  have := hj k hk
  rw [List.getElem?_eq_getElem (by omega)] at hb
  rw [Option.some.inj hb] at this
  simpa using this
theorem firstAt_miss {p : α → Bool} {l : List α} (h : firstAt p l = none) : ∀ (k : Nat) (a : α), l[k]? = some a → p a = false := by
  unfold firstAt at h
  rw [List.findIdx?_eq_none_iff] at h
  exact fun k a ha => h a (List.mem_of_getElem? ha)
theorem count_snoc {p : α → Bool} {l : List α} {k : Nat} {a : α} (h : l[k]? = some a) : (l.take (k + 1)).countP p = (l.take k).countP p + if p a then 1 else 0 := by
  rw [take_of_get h, List.countP_append]
  simp [List.countP_cons, List.countP_nil]
theorem filter_snoc {p : α → Bool} {l : List α} {k : Nat} {a : α} (h : l[k]? = some a) : (l.take (k + 1)).filter p = (l.take k).filter p ++ if p a then [a] else [] := by
  rw [take_of_get h, List.filter_append]
  cases hp : p a <;> simp [hp]
end
end Tide
