/- The text of a field of a cron: runs of numbers, joined: plain. -/
import Derived.Test.YthelnkoohbnjpaaDoorTxtI
import Derived.Lib.Join
import Derived.Lib.ItoaNum
set_option linter.unusedVariables false
set_option linter.unusedSimpArgs false
namespace Tide
open Go
/-- a number as text -/
def decB (n : Nat) : ByteArray := ⟨(Lib.decDigits n).toArray⟩
theorem decB_size {n : Nat} (h : n < 100) : (decB n).size ≤ 2 := by
  rw [ba_size]
  show (Lib.decDigits n).length ≤ 2
  by_cases h1 : n < 10
  · rw [Lib.decDigits_one h1]; simp
  · rw [Lib.decDigits_two h1 h]; simp
/-- a run from a to b as text -/
def runTxt (a b : Nat) : ByteArray := if b = a then decB a else decB a ++ ⟨#[45]⟩ ++ decB b
theorem runTxt_one (a : Nat) : runTxt a a = decB a := if_pos rfl
theorem runTxt_two {a b : Nat} (h : b ≠ a) : runTxt a b = decB a ++ ⟨#[45]⟩ ++ decB b := if_neg h
theorem runTxt_size {a b : Nat} (ha : a < 100) (hb : b < 100) : (runTxt a b).size ≤ 5 := by
  have h1 := decB_size ha; have h2 := decB_size hb
  unfold runTxt
  split
  · omega
  · rw [ByteArray.size_append, ByteArray.size_append]
    show _ + 1 + _ ≤ 5
    omega
/-- where a run ends that has come to v -/
def runEnd (s hi : Nat) : Nat → Nat → Nat
  | 0, v => v
  | f + 1, v => if v < hi ∧ s.testBit (v + 1) = true then runEnd s hi f (v + 1) else v
theorem runEnd_go {s hi v f : Nat} (hf : hi - v ≤ f) (h1 : v < hi) (h2 : s.testBit (v + 1) = true) : ∃ g, f = g + 1 ∧ runEnd s hi f v = runEnd s hi g (v + 1) := by
  cases f with
  | zero => omega
  | succ g => exact ⟨g, rfl, if_pos ⟨h1, h2⟩⟩
theorem runEnd_stop {s hi v f : Nat} (h : ¬ (v < hi ∧ s.testBit (v + 1) = true)) : runEnd s hi f v = v := by
  cases f with
  | zero => rfl
  | succ g => exact if_neg h
theorem runEnd_le : ∀ (s hi f v : Nat), v ≤ hi → v ≤ runEnd s hi f v ∧ runEnd s hi f v ≤ hi ∧ ∀ u, v < u → u ≤ runEnd s hi f v → s.testBit u = true
  | s, hi, 0, v, h => ⟨Nat.le_refl _, h, fun u h1 h2 => absurd (show u ≤ v from h2) (by omega)⟩
  | s, hi, f + 1, v, h => by
    by_cases hc : v < hi ∧ s.testBit (v + 1) = true
    · have e : runEnd s hi (f + 1) v = runEnd s hi f (v + 1) := if_pos hc
      obtain ⟨h1, h2, h3⟩ := runEnd_le s hi f (v + 1) (by omega)
      rw [e]
      refine ⟨by omega, h2, fun u hu1 hu2 => ?_⟩
      by_cases hu : u = v + 1
      · subst hu; exact hc.2
      · exact h3 u (by omega) hu2
    · have e : runEnd s hi (f + 1) v = v := if_neg hc
      rw [e]
      exact ⟨Nat.le_refl _, h, fun u h1 h2 => absurd h2 (by omega)⟩
theorem runEnd_max : ∀ (s hi f v : Nat), v ≤ hi → hi - v ≤ f → runEnd s hi f v < hi → s.testBit (runEnd s hi f v + 1) = false
  | s, hi, 0, v, h, hf, hl => absurd (show v < hi from hl) (by omega)
  | s, hi, f + 1, v, h, hf, hl => by
    by_cases hc : v < hi ∧ s.testBit (v + 1) = true
    · have e : runEnd s hi (f + 1) v = runEnd s hi f (v + 1) := if_pos hc
      rw [e] at hl ⊢
      exact runEnd_max s hi f (v + 1) (by omega) (by omega) hl
    · have e : runEnd s hi (f + 1) v = v := if_neg hc
      rw [e] at hl ⊢
      cases hb : s.testBit (v + 1) with
      | false => rfl
      | true => exact absurd ⟨hl, hb⟩ hc
/-- does a run begin here? -/
def begins (s lo v : Nat) : Bool := s.testBit v && (decide (v = lo) || !s.testBit (v - 1))
/-- the texts of the runs that begin ahead of v -/
def txtsUp (s lo hi v : Nat) : List ByteArray := ((List.range v).filter (fun u => decide (lo ≤ u) && begins s lo u)).map (fun u => runTxt u (runEnd s hi 64 u))
theorem txtsUp_no {s lo hi v : Nat} (h : (decide (lo ≤ v) && begins s lo v) = false) : txtsUp s lo hi (v + 1) = txtsUp s lo hi v := by
  unfold txtsUp
  rw [List.range_succ, List.filter_append, List.filter_cons_of_neg (by rw [h]; simp), List.filter_nil, List.append_nil]
theorem txtsUp_yes {s lo hi v : Nat} (h1 : lo ≤ v) (h : begins s lo v = true) : txtsUp s lo hi (v + 1) = txtsUp s lo hi v ++ [runTxt v (runEnd s hi 64 v)] := by
  unfold txtsUp
  rw [List.range_succ, List.filter_append, List.filter_cons_of_pos (by rw [h, decide_eq_true h1]; rfl), List.filter_nil, List.map_append]; rfl
theorem txtsUp_lo (s lo hi : Nat) : txtsUp s lo hi lo = [] := by
  unfold txtsUp
  have : (List.range lo).filter (fun u => decide (lo ≤ u) && begins s lo u) = [] := by
    rw [List.filter_eq_nil_iff]
    intro u hu
    have := List.mem_range.1 hu
    rw [decide_eq_false (show ¬ lo ≤ u by omega)]; simp
  rw [this]; rfl
theorem txtsUp_skip {s lo hi v : Nat} : ∀ (d : Nat), lo ≤ v → (∀ u, v < u → u ≤ v + d → s.testBit u = false ∨ s.testBit (u - 1) = true) → txtsUp s lo hi (v + 1 + d) = txtsUp s lo hi (v + 1)
  | 0, _, _ => rfl
  | d + 1, h1, h => by
    have e : v + 1 + (d + 1) = (v + 1 + d) + 1 := by omega
    rw [e, txtsUp_no, txtsUp_skip d h1 (fun u a b => h u a (by omega))]
    unfold begins
    rcases h (v + 1 + d) (by omega) (by omega) with c | c
    · rw [c]; simp
    · rw [show v + 1 + d - 1 = v + d by omega] at c
      rw [show v + 1 + d - 1 = v + d by omega, c, decide_eq_false (show ¬ v + 1 + d = lo by omega)]; simp
theorem txtsUp_len (s lo hi v : Nat) : (txtsUp s lo hi v).length ≤ v := by
  unfold txtsUp
  rw [List.length_map]
  have := List.length_filter_le (fun u => decide (lo ≤ u) && begins s lo u) (List.range v)
  rwa [List.length_range] at this
theorem txtsUp_size {s lo hi v : Nat} (hv : v ≤ hi + 1) (hh : hi < 99) : ∀ x ∈ txtsUp s lo hi v, x.size ≤ 5 := by
  intro x hx
  unfold txtsUp at hx
  obtain ⟨u, hu, rfl⟩ := List.mem_map.1 hx
  have h1 := List.mem_range.1 (List.mem_filter.1 hu).1
  have := (runEnd_le s hi 64 u (by omega)).2.1
  exact runTxt_size (by omega) (by omega)
/-- the text of a field -/
def joinB (c : UInt8) (l : List ByteArray) : ByteArray := ⟨(Lib.join (l.map (·.data.toList)) [c]).toArray⟩
theorem joinB_nil (c : UInt8) : joinB c [] = ⟨#[]⟩ := rfl
theorem joinB_one (c : UInt8) (x : ByteArray) : joinB c [x] = x := by
  apply ba_ext
  show Lib.join [x.data.toList] [c] = _
  rw [Lib.join_one]
theorem joinB_snoc (c : UInt8) {l : List ByteArray} (h : l ≠ []) (x : ByteArray) : joinB c (l ++ [x]) = joinB c l ++ ⟨#[c]⟩ ++ x := by
  apply ba_ext
  cases l with
  | nil => exact absurd rfl h
  | cons y l =>
    rw [ByteArray.data_append, ByteArray.data_append, Array.toList_append, Array.toList_append]
    show Lib.join (y.data.toList :: (l ++ [x]).map (·.data.toList)) [c] = Lib.join (y.data.toList :: l.map (·.data.toList)) [c] ++ [c] ++ x.data.toList
    rw [Lib.join_cons, Lib.join_cons, List.map_append]
    unfold Lib.joinTail
    rw [List.map_append, List.flatten_append]
    simp
theorem lens_le {k : Nat} : ∀ {l : List (List UInt8)}, (∀ x ∈ l, x.length ≤ k) → Lib.lens l ≤ k * l.length
  | [], _ => by simp [Lib.lens]
  | y :: l, h => by
    have ih := lens_le (l := l) (fun x hx => h x (List.mem_cons_of_mem _ hx))
    have h1 := h y (by simp)
    simp only [Lib.lens, List.map_cons, List.sum_cons, List.length_cons] at ih ⊢
    rw [Nat.mul_succ]; omega
theorem joinB_size (c : UInt8) {l : List ByteArray} {k : Nat} (h : ∀ x ∈ l, x.size ≤ k) : (joinB c l).size ≤ (k + 1) * l.length := by
  rw [ba_size]
  cases l with
  | nil => exact Nat.le_refl _
  | cons y l =>
    show (Lib.join (y.data.toList :: l.map (·.data.toList)) [c]).length ≤ _
    rw [Lib.join_length]
    have := lens_le (k := k) (l := y.data.toList :: l.map (·.data.toList)) (fun x hx => by
      rcases List.mem_cons.1 hx with rfl | hx
      · rw [← ba_size]; exact h y (by simp)
      · obtain ⟨z, hz, rfl⟩ := List.mem_map.1 hx
        rw [← ba_size]; exact h z (List.mem_cons_of_mem _ hz))
    simp only [List.length_cons, List.length_map, List.length_nil] at this ⊢
    have e := Nat.add_mul k 1 (l.length + 1)
    omega
def fieldTxt (s lo hi : Nat) (any : Bool) : ByteArray := if s = allN lo hi ∧ any = true then star else joinB 44 (txtsUp s lo hi (hi + 1))
theorem fieldTxt_size (s lo hi : Nat) (any : Bool) (hh : hi ≤ 60) : (fieldTxt s lo hi any).size ≤ 400 := by
  unfold fieldTxt
  split
  · decide
  · have h1 := joinB_size 44 (k := 5) (txtsUp_size (s := s) (lo := lo) (v := hi + 1) (Nat.le_refl _) (show hi < 99 by omega))
    have h2 := txtsUp_len s lo hi (hi + 1)
    omega
end Tide
