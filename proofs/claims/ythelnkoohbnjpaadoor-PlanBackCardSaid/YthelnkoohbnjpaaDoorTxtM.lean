/- Texts as lists of bytes: pieces between bytes of one sort, what lies ahead of the first; plain. -/
import Derived.Test.YthelnkoohbnjpaaDoorZBase
import Derived.Lib.SplitLaws
import Derived.Lib.IndexBytes
set_option linter.unusedVariables false
set_option linter.unusedSimpArgs false
namespace Tide
open Go
/-- the pieces of a text between bytes of one sort -/
def pieces (c : UInt8) : List UInt8 → List (List UInt8)
  | [] => [[]]
  | b :: l => if b = c then [] :: pieces c l else match pieces c l with
    | p :: ps => (b :: p) :: ps
    | [] => [[b]]
theorem pieces_pos (c : UInt8) (l : List UInt8) : 0 < (pieces c l).length := by
  cases l with
  | nil => exact Nat.one_pos
  | cons b l =>
    unfold pieces
    split
    · simp
    · split <;> simp
theorem pieces_cons (c : UInt8) (l : List UInt8) : ∃ p ps, pieces c l = p :: ps := by
  have := pieces_pos c l
  cases h : pieces c l with
  | nil => rw [h] at this; exact absurd this (by simp)
  | cons p ps => exact ⟨p, ps, rfl⟩
theorem pieces_eq (c : UInt8) (l : List UInt8) : pieces c (c :: l) = [] :: pieces c l := by
  conv => lhs; unfold pieces
  rw [if_pos rfl]
theorem pieces_ne {c b : UInt8} (h : b ≠ c) {l p : List UInt8} {ps : List (List UInt8)} (e : pieces c l = p :: ps) : pieces c (b :: l) = (b :: p) :: ps := by
  conv => lhs; unfold pieces
  rw [if_neg h, e]
/-- the last piece grows by a byte -/
def growLast (b : UInt8) : List (List UInt8) → List (List UInt8)
  | [] => [[b]]
  | [p] => [p ++ [b]]
  | p :: q :: ps => p :: growLast b (q :: ps)
theorem growLast_cons (b : UInt8) (p : List UInt8) {ps : List (List UInt8)} (h : ps ≠ []) : growLast b (p :: ps) = p :: growLast b ps := by
  cases ps with
  | nil => exact absurd rfl h
  | cons q ps => rfl
/-- a byte more at the end -/
theorem pieces_snoc (c b : UInt8) : ∀ l : List UInt8, pieces c (l ++ [b]) = if b = c then pieces c l ++ [[]] else growLast b (pieces c l)
  | [] => by
    by_cases h : b = c
    · subst h; rw [if_pos rfl]; show pieces b (b :: []) = _; rw [pieces_eq]; rfl
    · rw [if_neg h]; show pieces c (b :: []) = _; rw [pieces_ne h (show pieces c [] = [] :: [] from rfl)]; rfl
  | x :: l => by
    have ih := pieces_snoc c b l
    by_cases hx : x = c
    · subst hx
      rw [List.cons_append, pieces_eq, pieces_eq, ih]
      split
      · rfl
      · rw [growLast_cons _ _ (by have := pieces_pos x l; intro e; rw [e] at this; exact absurd this (by simp))]
    · obtain ⟨p, ps, e⟩ := pieces_cons c l
      rw [List.cons_append, pieces_ne hx e]
      rw [e] at ih
      by_cases h : b = c
      · rw [if_pos h] at ih ⊢
        rw [pieces_ne hx (show pieces c (l ++ [b]) = p :: (ps ++ [[]]) from ih)]; rfl
      · rw [if_neg h] at ih ⊢
        cases ps with
        | nil => rw [pieces_ne hx (show pieces c (l ++ [b]) = (p ++ [b]) :: [] from ih)]; rfl
        | cons q ps => rw [pieces_ne hx (show pieces c (l ++ [b]) = p :: growLast b (q :: ps) from ih)]; rfl
theorem growLast_length (b : UInt8) : ∀ l : List (List UInt8), l ≠ [] → (growLast b l).length = l.length
  | [], h => absurd rfl h
  | [_], _ => rfl
  | _ :: q :: ps, _ => by
    have := growLast_length b (q :: ps) (by simp)
    show (growLast b (q :: ps)).length + 1 = _
    rw [this]; rfl
theorem growLast_set (b : UInt8) : ∀ {l : List (List UInt8)} {p : List UInt8}, l[l.length - 1]? = some p → growLast b l = l.set (l.length - 1) (p ++ [b])
  | [], p, h => by simp at h
  | [q], p, h => by simp at h; subst h; rfl
  | x :: q :: ps, p, h => by
    have ih := growLast_set b (l := q :: ps) (p := p) (by simpa using h)
    show x :: growLast b (q :: ps) = _
    rw [ih]; rfl
/-- each piece is no longer than the text -/
theorem pieces_le (c : UInt8) : ∀ (l : List UInt8), ∀ p ∈ pieces c l, p.length ≤ l.length
  | [], p, hp => by simp [pieces] at hp; subst hp; simp
  | b :: l, p, hp => by
    have ih := pieces_le c l
    by_cases h : b = c
    · subst h
      rw [pieces_eq] at hp
      rcases List.mem_cons.1 hp with rfl | hp
      · simp
      · have := ih p hp; simp; omega
    · obtain ⟨q, ps, e⟩ := pieces_cons c l
      rw [pieces_ne h e] at hp
      rw [e] at ih
      rcases List.mem_cons.1 hp with rfl | hp
      · have := ih q (by simp); simp; omega
      · have := ih p (by simp [hp]); simp; omega
theorem pieces_many (c : UInt8) : ∀ (l : List UInt8), (pieces c l).length = l.count c + 1
  | [] => rfl
  | b :: l => by
    have ih := pieces_many c l
    by_cases h : b = c
    · subst h; rw [pieces_eq, List.length_cons, ih, List.count_cons_self]
    · obtain ⟨q, ps, e⟩ := pieces_cons c l
      rw [pieces_ne h e, List.count_cons_of_ne (by simpa using h), ← ih, e]; rfl
/-- no piece has the byte -/
theorem pieces_none (c : UInt8) : ∀ (l : List UInt8), ∀ p ∈ pieces c l, c ∉ p
  | [], p, hp => by simp [pieces] at hp; subst hp; simp
  | b :: l, p, hp => by
    have ih := pieces_none c l
    by_cases h : b = c
    · subst h
      rw [pieces_eq] at hp
      rcases List.mem_cons.1 hp with rfl | hp
      · simp
      · exact ih p hp
    · obtain ⟨q, ps, e⟩ := pieces_cons c l
      rw [pieces_ne h e] at hp
      rw [e] at ih
      rcases List.mem_cons.1 hp with rfl | hp
      · have := ih q (by simp)
        simp only [List.mem_cons, not_or]
        exact ⟨fun e => h e.symm, this⟩
      · exact ih p (by simp [hp])
/-- ahead of the first byte of a sort, behind it, whether there is one -/
def cutB (c : UInt8) : List UInt8 → List UInt8 × List UInt8 × Bool
  | [] => ([], [], false)
  | b :: l => if b = c then ([], l, true) else (b :: (cutB c l).1, (cutB c l).2.1, (cutB c l).2.2)
theorem cutB_eq (c : UInt8) (l : List UInt8) : cutB c (c :: l) = ([], l, true) := by conv => lhs; unfold cutB; rw [if_pos rfl]
theorem cutB_ne {c b : UInt8} (h : b ≠ c) (l : List UInt8) : cutB c (b :: l) = (b :: (cutB c l).1, (cutB c l).2.1, (cutB c l).2.2) := by conv => lhs; unfold cutB; rw [if_neg h]
theorem index_cons_ne {c b : UInt8} (h : b ≠ c) (l : List UInt8) : Lib.index (b :: l) [c] = if Lib.index l [c] = -1 then -1 else Lib.index l [c] + 1 := by
  have hp : ([c] : List UInt8).isPrefixOf (b :: l) = false := by simp [List.isPrefixOf, Ne.symm h]
  rw [Lib.index, hp]
  by_cases e : Lib.index l [c] = -1
  · rw [if_pos e, e]; rfl
  · rw [if_neg e]; simp [e]
theorem index_cons_eq (c : UInt8) (l : List UInt8) : Lib.index (c :: l) [c] = 0 := by rw [Lib.index]; simp [List.isPrefixOf]
theorem cut_is (c : UInt8) : ∀ l : List UInt8, Lib.cut l [c] = cutB c l
  | [] => rfl
  | b :: l => by
    have ih := cut_is c l
    have hg := Lib.index_ge l [c]
    by_cases h : b = c
    · subst h
      unfold Lib.cut
      rw [index_cons_eq, if_pos (by omega), cutB_eq]
      simp
    · rw [cutB_ne h, ← ih]
      unfold Lib.cut
      rw [index_cons_ne h]
      by_cases e : Lib.index l [c] = -1
      · rw [if_pos e, if_neg (by omega), if_neg (by omega)]
      · have e2 : (Lib.index l [c] + 1).toNat = (Lib.index l [c]).toNat + 1 := by omega
        rw [if_neg e, if_pos (by omega), if_pos (by omega), e2]
        simp only [List.take_succ_cons, List.length_cons, List.length_nil]
        rfl
theorem splitK_is (c : UInt8) : ∀ l : List UInt8, Lib.splitK [c] 0 (Lib.count l [c]) l = pieces c l
  | [] => by rw [Lib.count_one]; rfl
  | b :: l => by
    have ih := splitK_is c l
    by_cases h : b = c
    · subst h
      rw [Lib.count_cons_eq, Nat.add_comm, pieces_eq, ← ih]
      conv => lhs; unfold Lib.splitK
      rw [index_cons_eq]
      simp
    · rw [Lib.count_cons_ne b c l h]
      cases hk : Lib.count l [c] with
      | zero =>
        rw [hk] at ih
        rw [pieces_ne h (show pieces c l = l :: [] from ih.symm)]; rfl
      | succ k =>
        rw [hk] at ih
        have hm : Lib.index l [c] ≠ -1 := fun e => by
          have := Lib.count_miss e; omega
        have hg := Lib.index_ge l [c]
        obtain ⟨i, hi⟩ : ∃ i : Nat, Lib.index l [c] = i := ⟨(Lib.index l [c]).toNat, by omega⟩
        have e1 : Lib.splitK [c] 0 (k + 1) l = l.take i :: Lib.splitK [c] 0 k (l.drop (i + 1)) := by
          conv => lhs; unfold Lib.splitK
          rw [hi, if_neg (by first | (simp; done) | (simp; omega))]; simp
        rw [e1] at ih
        rw [pieces_ne h ih.symm]
        conv => lhs; unfold Lib.splitK
        rw [index_cons_ne h, if_neg hm, hi, if_neg (by first | (simp; done) | (simp; omega))]
        have e2 : ((i : Int) + 1).toNat = i + 1 := by omega
        rw [e2]; simp
/-- what strings.Split hands back -/
theorem split_is (c : UInt8) (s : ByteArray) : (Lib.splitB ⟨#[c]⟩ 0 (Lib.countB s ⟨#[c]⟩) s).map (·.data.toList) = pieces c s.data.toList := by
  rw [Lib.splitB_data]
  exact splitK_is c s.data.toList
end Tide
