/- The walk of TopicPlays. -/
import Derived.Test.YtgkbdoecpbepbaaTopE
import Derived.Test.YtgkbdoecpbepbaaOpenRows
namespace Go.Proofs.Ytgkbdoecpbepbaa
open Go.RowKit
set_option linter.unusedVariables false

/-! what Make and Take do to the list -/
def entry (l : List (Int × Int)) (i : Int) : Option (Int × Int) := if 0 ≤ i then l[i.toNat]? else none
def makeErr (l : List (Int × Int)) (i n : Int) : Int := if (entry l i).isNone then 4 else if n < 1 ∨ 100000 < n then 1 else 0
def makeLst (l : List (Int × Int)) (i n : Int) : List (Int × Int) := if n < 1 ∨ 100000 < n then l else match entry l i with | none => l | some (e, o) => l.set i.toNat (Tide.clip (e + n), o)
def takeErr (l : List (Int × Int)) (i n : Int) : Int := match entry l i with | none => 4 | some (e, o) => if n < o ∨ e < n then 1 else 0
def takeLst (l : List (Int × Int)) (i n : Int) : List (Int × Int) := match entry l i with | none => l | some (e, o) => if n < o ∨ e < n then l else l.set i.toNat (e, n)
theorem makeLst_length (l : List (Int × Int)) (i n : Int) : (makeLst l i n).length = l.length := by unfold makeLst; split; rfl; split <;> simp
theorem takeLst_length (l : List (Int × Int)) (i n : Int) : (takeLst l i n).length = l.length := by unfold takeLst; split; rfl; split <;> simp
theorem entry_some {l : List (Int × Int)} {i : Int} {e o : Int} (h : entry l i = some (e, o)) : 0 ≤ i ∧ l[i.toNat]? = some (e, o) := by
  unfold entry at h; split at h
  · exact ⟨by assumption, h⟩
  · cases h
theorem entry_none {l : List (Int × Int)} {i : Int} (h : entry l i = none) : i < 0 ∨ (l.length : Int) ≤ i := by
  unfold entry at h; split at h
  · rename_i h0
    have : l.length ≤ i.toNat := by simpa using h
    omega
  · omega
theorem Small.makes {l : List (Int × Int)} (h : Small l) (i n : Int) : Small (makeLst l i n) := by
  unfold makeLst; split
  · exact h
  · split
    · exact h
    · rename_i hn _ e o he
      obtain ⟨h0, hx⟩ := entry_some he
      have hm := h _ (List.mem_of_getElem? hx)
      simp only at hm
      intro q hq
      rcases List.mem_or_eq_of_mem_set hq with h1 | rfl
      · exact h q h1
      · have := Tide.clip_spec (e + n)
        simp only
        omega
theorem Small.takes {l : List (Int × Int)} (h : Small l) (i n : Int) : Small (takeLst l i n) := by
  unfold takeLst; split
  · exact h
  · rename_i e o he
    split
    · exact h
    · obtain ⟨h0, hx⟩ := entry_some he
      have hm := h _ (List.mem_of_getElem? hx)
      simp only at hm
      intro q hq
      rcases List.mem_or_eq_of_mem_set hq with h1 | rfl
      · exact h q h1
      · simp only; omega
theorem addc_eq {e n : Int} (h0 : 0 ≤ e) (h1 : e ≤ 1000000000000000) (h2 : 1 ≤ n) (h3 : n ≤ 100000) : Tide.addc e n = Tide.clip (e + n) := by
  unfold Tide.addc; rw [Tide.clip_id (by omega) h1, Tide.clip_id (n := n) (by omega) (by omega)]

theorem topMake_any (g p : Nat) (l : List (Int × Int)) (i n : Int) (w : World) (ht : TopicAt w g p l) (hs : Small l) :
    Calls Try.prog 14 #[.pointer (some ⟨g, 0, none⟩), .int .i64 i, .int .i64 n] w fun en w' => en = .returned (.int .i64 (makeErr l i n)) ∧ TopicAt w' g p (makeLst l i n) ∧ Tide.Chg (· = p) w w' := by
  cases he : entry l i with
  | none =>
    have e1 : makeErr l i n = 4 := by unfold makeErr; rw [he]; rfl
    have e2 : makeLst l i n = l := by unfold makeLst; rw [he]; split <;> rfl
    rw [e1, e2]
    exact (topMake_none g p l i n w ht (entry_none he)).mono fun _ _ ⟨a, b⟩ => ⟨a, b ▸ ht, b ▸ Tide.Chg.refl _ _⟩
  | some q =>
    obtain ⟨e, o⟩ := q
    obtain ⟨h0, hx⟩ := entry_some he
    have hlt : i.toNat < l.length := by
      rcases Nat.lt_or_ge i.toNat l.length with h | h
      · exact h
      · rw [List.getElem?_eq_none h] at hx; cases hx
    by_cases hn : n < 1 ∨ 100000 < n
    · have e1 : makeErr l i n = 1 := by unfold makeErr; rw [he]; simp [hn]
      have e2 : makeLst l i n = l := by unfold makeLst; rw [if_pos hn]
      rw [e1, e2]
      exact (topMake_arg g p l i n w ht h0 (by omega) hn).mono fun _ _ ⟨a, b⟩ => ⟨a, b ▸ ht, b ▸ Tide.Chg.refl _ _⟩
    · have e1 : makeErr l i n = 0 := by unfold makeErr; rw [he]; simp [hn]
      have hm := hs _ (List.mem_of_getElem? hx)
      simp only at hm
      have e2 : makeLst l i n = l.set i.toNat (Tide.addc e n, o) := by unfold makeLst; rw [if_neg hn, he, addc_eq (by omega) (by omega) (by omega) (by omega)]
      rw [e1, e2]
      have := topMake_yes g p l i.toNat n e o w ht hx (by omega) (by omega)
      rw [Int.toNat_of_nonneg h0] at this
      exact this
theorem boaMake_any (g p q : Nat) (l : List (Int × Int)) (i n : Int) (w : World) (ht : BoardAt w g p q l) (hs : Small l) :
    Calls Try.prog 15 #[.pointer (some ⟨g, 0, none⟩), .int .i64 i, .int .i64 n] w fun en w' => en = .returned (.int .i64 (makeErr l i n)) ∧ BoardAt w' g p q (makeLst l i n) ∧ Tide.Chg (fun x => x = p ∨ x = q) w w' := by
  cases he : entry l i with
  | none =>
    have e1 : makeErr l i n = 4 := by unfold makeErr; rw [he]; rfl
    have e2 : makeLst l i n = l := by unfold makeLst; rw [he]; split <;> rfl
    rw [e1, e2]
    exact (boaMake_none g p q l i n w ht (entry_none he)).mono fun _ _ ⟨a, b⟩ => ⟨a, b ▸ ht, b ▸ Tide.Chg.refl _ _⟩
  | some x =>
    obtain ⟨e, o⟩ := x
    obtain ⟨h0, hx⟩ := entry_some he
    have hlt : i.toNat < l.length := by
      rcases Nat.lt_or_ge i.toNat l.length with h | h
      · exact h
      · rw [List.getElem?_eq_none h] at hx; cases hx
    by_cases hn : n < 1 ∨ 100000 < n
    · have e1 : makeErr l i n = 1 := by unfold makeErr; rw [he]; simp [hn]
      have e2 : makeLst l i n = l := by unfold makeLst; rw [if_pos hn]
      rw [e1, e2]
      exact (boaMake_arg g p q l i n w ht h0 (by omega) hn).mono fun _ _ ⟨a, b⟩ => ⟨a, b ▸ ht, b ▸ Tide.Chg.refl _ _⟩
    · have e1 : makeErr l i n = 0 := by unfold makeErr; rw [he]; simp [hn]
      have hm := hs _ (List.mem_of_getElem? hx)
      simp only at hm
      have e2 : makeLst l i n = l.set i.toNat (Tide.clip (e + n), o) := by unfold makeLst; rw [if_neg hn, he]
      rw [e1, e2]
      have := boaMake_yes g p q l i.toNat n e o w ht hx (by omega) (by omega) (by omega) (by omega)
      rw [Int.toNat_of_nonneg h0] at this
      exact this.mono fun _ _ ⟨a, b, c⟩ => ⟨a, b, c.mono fun _ _ h => .inl h⟩
theorem topTake_any (g p : Nat) (l : List (Int × Int)) (i n : Int) (w : World) (ht : TopicAt w g p l) :
    Calls Try.prog 16 #[.pointer (some ⟨g, 0, none⟩), .int .i64 i, .int .i64 n] w fun en w' => en = .returned (.int .i64 (takeErr l i n)) ∧ TopicAt w' g p (takeLst l i n) ∧ Tide.Chg (· = p) w w' := by
  cases he : entry l i with
  | none =>
    have e1 : takeErr l i n = 4 := by unfold takeErr; rw [he]
    have e2 : takeLst l i n = l := by unfold takeLst; rw [he]
    rw [e1, e2]
    exact (topTake_none g p l i n w ht (entry_none he)).mono fun _ _ ⟨a, b⟩ => ⟨a, b ▸ ht, b ▸ Tide.Chg.refl _ _⟩
  | some x =>
    obtain ⟨e, o⟩ := x
    obtain ⟨h0, hx⟩ := entry_some he
    by_cases hn : n < o ∨ e < n
    · have e1 : takeErr l i n = 1 := by unfold takeErr; rw [he]; simp [hn]
      have e2 : takeLst l i n = l := by unfold takeLst; rw [he]; simp [hn]
      rw [e1, e2]
      have := topTake_arg g p l i.toNat n e o w ht hx hn
      rw [Int.toNat_of_nonneg h0] at this
      exact this.mono fun _ _ ⟨a, b⟩ => ⟨a, b ▸ ht, b ▸ Tide.Chg.refl _ _⟩
    · have e1 : takeErr l i n = 0 := by unfold takeErr; rw [he]; simp [hn]
      have e2 : takeLst l i n = l.set i.toNat (e, n) := by unfold takeLst; rw [he]; simp [hn]
      rw [e1, e2]
      have := topTake_yes g p l i.toNat n e o w ht hx (by omega) (by omega)
      rw [Int.toNat_of_nonneg h0] at this
      exact this
theorem boaTake_any (g p q : Nat) (l : List (Int × Int)) (i n : Int) (w : World) (ht : BoardAt w g p q l) :
    Calls Try.prog 17 #[.pointer (some ⟨g, 0, none⟩), .int .i64 i, .int .i64 n] w fun en w' => en = .returned (.int .i64 (takeErr l i n)) ∧ BoardAt w' g p q (takeLst l i n) ∧ Tide.Chg (fun x => x = p ∨ x = q) w w' := by
  cases he : entry l i with
  | none =>
    have e1 : takeErr l i n = 4 := by unfold takeErr; rw [he]
    have e2 : takeLst l i n = l := by unfold takeLst; rw [he]
    rw [e1, e2]
    exact (boaTake_none g p q l i n w ht (entry_none he)).mono fun _ _ ⟨a, b⟩ => ⟨a, b ▸ ht, b ▸ Tide.Chg.refl _ _⟩
  | some x =>
    obtain ⟨e, o⟩ := x
    obtain ⟨h0, hx⟩ := entry_some he
    by_cases hn : n < o ∨ e < n
    · have e1 : takeErr l i n = 1 := by unfold takeErr; rw [he]; simp [hn]
      have e2 : takeLst l i n = l := by unfold takeLst; rw [he]; simp [hn]
      rw [e1, e2]
      have := boaTake_arg g p q l i.toNat n e o w ht hx hn
      rw [Int.toNat_of_nonneg h0] at this
      exact this.mono fun _ _ ⟨a, b⟩ => ⟨a, ht.chg b (fun h => h) (fun h => h) (fun h => h), b.mono fun _ _ h => h.elim⟩
    · have e1 : takeErr l i n = 0 := by unfold takeErr; rw [he]; simp [hn]
      have e2 : takeLst l i n = l.set i.toNat (e, n) := by unfold takeLst; rw [he]; simp [hn]
      rw [e1, e2]
      have := boaTake_yes g p q l i.toNat n e o w ht hx (by omega) (by omega)
      rw [Int.toNat_of_nonneg h0] at this
      exact this.mono fun _ _ ⟨a, b, c⟩ => ⟨a, b, c.mono fun _ _ h => .inr h⟩
end Go.Proofs.Ytgkbdoecpbepbaa
