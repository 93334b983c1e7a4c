/- What is printed is read as it was: the fields of a cron, plain. What is printed is read as it was: the whole of a cron, plain. What a plan prints is read as it was: plain. The walk of PlanBack. -/
import Derived.Test.YthelnkoohbnjpaaDoorZTxt
import Derived.Test.YthelnkoohbnjpaaDoorPrtP
import Derived.Test.YthelnkoohbnjpaaDoorPtxM
import Derived.Test.YthelnkoohbnjpaaDoorZPrd
import Derived.Test.YthelnkoohbnjpaaDoorPpnC
import Derived.Test.YthelnkoohbnjpaaDoorPrdY
import Derived.Deep.MidRow
import Derived.Laws.Rows
import Derived.Test.YthelnkoohbnjpaaDoorSamP

set_option linter.unusedVariables false
set_option linter.unusedSimpArgs false
namespace Tide
open Go
set_option linter.unusedVariables false
theorem pieces_app {c : UInt8} : ∀ {x : List UInt8} (l : List UInt8), c ∉ x → pieces c (x ++ c :: l) = x :: pieces c l
  | [], l, _ => pieces_eq c l
  | b :: x, l, h => by
    rw [List.mem_cons, not_or] at h
    rw [List.cons_append, pieces_ne (fun e => h.1 e.symm) (pieces_app l h.2)]
theorem pieces_tail {c : UInt8} : ∀ {xs : List (List UInt8)} {x : List UInt8}, c ∉ x → (∀ y ∈ xs, c ∉ y) → pieces c (x ++ Lib.joinTail [c] xs) = x :: xs
  | [], x, h, _ => by
    show pieces c (x ++ []) = _
    rw [List.append_nil, pieces_one h]
  | y :: xs, x, h, hs => by
    have ih := pieces_tail (xs := xs) (x := y) (hs y (by simp)) (fun z hz => hs z (List.mem_cons_of_mem _ hz))
    have e : Lib.joinTail [c] (y :: xs) = c :: (y ++ Lib.joinTail [c] xs) := by
      unfold Lib.joinTail
      simp
    rw [e, pieces_app _ h, ih]
theorem piecesB_join {c : UInt8} {l : List ByteArray} (hl : l ≠ []) (h : ∀ x ∈ l, c ∉ x.data.toList) : piecesB c (joinB c l) = l := by
  symm
  apply pieces_isB
  cases l with
  | nil => exact absurd rfl hl
  | cons x l =>
    show _ = pieces c (Lib.join (x.data.toList :: l.map (·.data.toList)) [c])
    rw [Lib.join_cons, pieces_tail (h x (by simp)) (fun y hy => by
      obtain ⟨z, hz, rfl⟩ := List.mem_map.1 hy
      exact h z (List.mem_cons_of_mem _ hz))]
    rfl
theorem cutB_out {c : UInt8} : ∀ {l : List UInt8}, c ∉ l → cutB c l = (l, [], false)
  | [], _ => rfl
  | b :: l, h => by
    rw [List.mem_cons, not_or] at h
    rw [cutB_ne (fun e => h.1 e.symm), cutB_out h.2]
theorem cutB_app {c : UInt8} : ∀ {x : List UInt8} (l : List UInt8), c ∉ x → cutB c (x ++ c :: l) = (x, l, true)
  | [], l, _ => cutB_eq c l
  | b :: x, l, h => by
    rw [List.mem_cons, not_or] at h
    rw [List.cons_append, cutB_ne (fun e => h.1 e.symm), cutB_app l h.2]
theorem digs_two : ∀ n < 100, ∀ b ∈ (if n < 10 then [UInt8.ofNat (48 + n)] else [UInt8.ofNat (48 + n / 10), UInt8.ofNat (48 + n % 10)]), digB b = true := by decide +kernel
theorem digs_val : ∀ n < 100, numL 2 (if n < 10 then [UInt8.ofNat (48 + n)] else [UInt8.ofNat (48 + n / 10), UInt8.ofNat (48 + n % 10)]) = (n : Int) := by decide +kernel
theorem decB_list {n : Nat} (h : n < 100) : (decB n).data.toList = if n < 10 then [UInt8.ofNat (48 + n)] else [UInt8.ofNat (48 + n / 10), UInt8.ofNat (48 + n % 10)] := by
  show Lib.decDigits n = _
  split
  · rename_i h1; exact Lib.decDigits_one h1
  · rename_i h1; exact Lib.decDigits_two h1 h
theorem decB_dig {n : Nat} (h : n < 100) : ∀ b ∈ (decB n).data.toList, digB b = true := by rw [decB_list h]; exact digs_two n h
theorem decB_val {n : Nat} (h : n < 100) : numL 2 (decB n).data.toList = (n : Int) := by rw [decB_list h]; exact digs_val n h
theorem decB_not {n : Nat} (h : n < 100) {c : UInt8} (hc : digB c = false) : c ∉ (decB n).data.toList := fun hm => by rw [decB_dig h c hm] at hc; cases hc
theorem runTxt_list {a b : Nat} : (runTxt a b).data.toList = if b = a then (decB a).data.toList else (decB a).data.toList ++ 45 :: (decB b).data.toList := by
  unfold runTxt
  split
  · rfl
  · rw [ByteArray.data_append, ByteArray.data_append, Array.toList_append, Array.toList_append]
    simp
theorem runTxt_not {a b : Nat} (ha : a < 100) (hb : b < 100) {c : UInt8} (hc : digB c = false) (h45 : c ≠ 45) : c ∉ (runTxt a b).data.toList := by
  rw [runTxt_list]
  split
  · exact decB_not ha hc
  · rw [List.mem_append, List.mem_cons]
    rintro (h | h | h)
    · exact decB_not ha hc h
    · exact h45 h
    · exact decB_not hb hc h
theorem runTxt_item {a b lo hi : Nat} (ha : lo ≤ a) (hab : a ≤ b) (hb : b ≤ hi) (hh : hi < 100) : itemN (lo : Int) (hi : Int) (runTxt a b) = ticksF 100 (a : Int) (b : Int) 1 := by
  have h47 : (47 : UInt8) ∉ (runTxt a b).data.toList := runTxt_not (by omega) (by omega) (by decide) (by decide)
  have hc : cutB 47 (runTxt a b).data.toList = ((runTxt a b).data.toList, [], false) := cutB_out h47
  have eX : cutX 47 (runTxt a b) = runTxt a b := ba_ext (by unfold cutX; rw [hc])
  have eZ : cutZ 47 (runTxt a b) = false := by unfold cutZ; rw [hc]
  have hns : runTxt a b ≠ star := by
    intro e
    have : (42 : UInt8) ∈ (runTxt a b).data.toList := by rw [e]; simp [star]
    exact runTxt_not (by omega) (by omega) (by decide) (by decide) this
  have hcut : cutB 45 (runTxt a b).data.toList = if b = a then ((decB a).data.toList, [], false) else ((decB a).data.toList, (decB b).data.toList, true) := by
    rw [runTxt_list]
    split
    · exact cutB_out (decB_not (by omega) (by decide))
    · exact cutB_app _ (decB_not (by omega) (by decide))
  have e45 : cutX 45 (runTxt a b) = decB a := ba_ext (by unfold cutX; rw [hcut]; split <;> rfl)
  rw [itemN_else (lo := (a : Int)) (hi := (b : Int)) (ev := 1)]
  · exact spread_some (by omega) (by omega) (by omega)
  · unfold itBad; rw [eZ]; simp
  · unfold itLo; rw [eX, if_neg hns, e45, decB_val (by omega)]
  · unfold itHi
    rw [eX, if_neg hns, e45]
    by_cases h : b = a
    · have : cutZ 45 (runTxt a b) = false := by unfold cutZ; rw [hcut, if_pos h]
      rw [this, if_neg (by simp), decB_val (by omega), h]
    · have h1 : cutZ 45 (runTxt a b) = true := by unfold cutZ; rw [hcut, if_neg h]
      have h2 : cutY 45 (runTxt a b) = decB b := ba_ext (by unfold cutY; rw [hcut, if_neg h])
      rw [h1, if_pos rfl, h2, decB_val (by omega)]
  · unfold itEv; rw [eZ]; rfl
theorem ticks_mem : ∀ (f : Nat) (a b : Nat), b + 1 - a ≤ f → ∀ n : Nat, n ∈ ticksF f (a : Int) (b : Int) 1 ↔ a ≤ n ∧ n ≤ b
  | 0, a, b, h, n => by
    show n ∈ [] ↔ _
    simp; omega
  | f + 1, a, b, h, n => by
    show n ∈ (if (a : Int) ≤ (b : Int) then ((a : Int)).toNat :: ticksF f ((a : Int) + 1) (b : Int) 1 else []) ↔ _
    split
    · have ih := ticks_mem f (a + 1) b (by omega) n
      rw [List.mem_cons, show ((a : Int) + 1) = ((a + 1 : Nat) : Int) by omega, ih]
      omega
    · simp; omega
theorem maskN_bit (ns : List Nat) (n : Nat) : (maskN ns).testBit n = decide (n ∈ ns) := by
  induction ns with
  | nil => show (0 : Nat).testBit n = _; simp
  | cons m ns ih =>
    rw [show maskN (m :: ns) = ns.foldl (fun m n => m ||| 2 ^ n) (0 ||| 2 ^ m) from rfl, fold_or, Nat.zero_or, Nat.testBit_or, ih, Nat.testBit_two_pow]
    by_cases h : m = n
    · subst h; simp
    · rw [decide_eq_false h]
      rw [Bool.false_or, decide_eq_decide, List.mem_cons]
      constructor
      · exact .inr
      · rintro (h1 | h1)
        · exact absurd h1.symm h
        · exact h1
theorem begin_below {s lo : Nat} : ∀ (n : Nat), lo ≤ n → s.testBit n = true → ∃ u, lo ≤ u ∧ u ≤ n ∧ begins s lo u = true ∧ ∀ m, u ≤ m → m ≤ n → s.testBit m = true
  | 0, h, hb => ⟨0, h, Nat.le_refl _, by unfold begins; rw [hb, decide_eq_true (show 0 = lo by omega)]; rfl, fun m _ h2 => by rw [show m = 0 by omega]; exact hb⟩
  | n + 1, h, hb => by
    by_cases h1 : n + 1 = lo
    · exact ⟨n + 1, h, Nat.le_refl _, by unfold begins; rw [hb, decide_eq_true h1]; rfl, fun m q1 q2 => by rw [show m = n + 1 by omega]; exact hb⟩
    · cases hp : s.testBit n with
      | false => exact ⟨n + 1, h, Nat.le_refl _, by unfold begins; rw [hb, show n + 1 - 1 = n by omega, hp]; simp, fun m q1 q2 => by rw [show m = n + 1 by omega]; exact hb⟩
      | true =>
        obtain ⟨u, a1, a2, a3, a4⟩ := begin_below (s := s) (lo := lo) n (by omega) hp
        refine ⟨u, a1, by omega, a3, fun m q1 q2 => ?_⟩
        by_cases hm : m ≤ n
        · exact a4 m q1 hm
        · rw [show m = n + 1 by omega]; exact hb
theorem txts_mem {s lo hi v : Nat} {x : ByteArray} : x ∈ txtsUp s lo hi v ↔ ∃ u, u < v ∧ lo ≤ u ∧ begins s lo u = true ∧ runTxt u (runEnd s hi 64 u) = x := by
  unfold txtsUp
  rw [List.mem_map]
  constructor
  · rintro ⟨u, hu, e⟩
    rw [List.mem_filter, List.mem_range, Bool.and_eq_true, decide_eq_true_eq] at hu
    exact ⟨u, hu.1, hu.2.1, hu.2.2, e⟩
  · rintro ⟨u, h1, h2, h3, e⟩
    exact ⟨u, by rw [List.mem_filter, List.mem_range, Bool.and_eq_true, decide_eq_true_eq]; exact ⟨h1, h2, h3⟩, e⟩
structure FieldIn (s lo hi : Nat) : Prop where
  ne : s ≠ 0
  bits : ∀ n, s.testBit n = true → lo ≤ n ∧ n ≤ hi
  le : lo ≤ hi
  lt : hi ≤ 60
theorem txts_ne {s lo hi : Nat} (h : FieldIn s lo hi) : txtsUp s lo hi (hi + 1) ≠ [] := by
  obtain ⟨n, hn⟩ := Nat.exists_testBit_of_ne_zero h.ne
  obtain ⟨u, a1, a2, a3, _⟩ := begin_below n (h.bits n hn).1 hn
  have hm : runTxt u (runEnd s hi 64 u) ∈ txtsUp s lo hi (hi + 1) := txts_mem.2 ⟨u, by have := (h.bits n hn).2; omega, a1, a3, rfl⟩
  intro e; rw [e] at hm; cases hm
theorem join_pieces {s lo hi : Nat} (h : FieldIn s lo hi) : piecesB 44 (joinB 44 (txtsUp s lo hi (hi + 1))) = txtsUp s lo hi (hi + 1) := by
  refine piecesB_join (txts_ne h) fun x hx => ?_
  obtain ⟨u, a1, a2, a3, rfl⟩ := txts_mem.1 hx
  have := (runEnd_le s hi 64 u (by omega)).2.1
  exact runTxt_not (by have := h.lt; omega) (by have := h.lt; omega) (by decide) (by decide)
theorem join_field {s lo hi : Nat} (h : FieldIn s lo hi) : fieldOk lo hi (joinB 44 (txtsUp s lo hi (hi + 1))) = true ∧ fieldN lo hi (joinB 44 (txtsUp s lo hi (hi + 1))) = s := by
  have hit : ∀ x ∈ txtsUp s lo hi (hi + 1), ∃ u, lo ≤ u ∧ u ≤ hi ∧ begins s lo u = true ∧ itemN (lo : Int) (hi : Int) x = ticksF 100 (u : Int) (runEnd s hi 64 u : Nat) 1 := by
    intro x hx
    obtain ⟨u, a1, a2, a3, rfl⟩ := txts_mem.1 hx
    have hr := runEnd_le s hi 64 u (by omega)
    exact ⟨u, a2, by omega, a3, runTxt_item a2 hr.1 hr.2.1 (by have := h.lt; omega)⟩
  constructor
  · refine fieldOk_good fun x hx => ?_
    rw [join_pieces h] at hx
    obtain ⟨u, a1, a2, a3, e⟩ := hit x hx
    have hr := runEnd_le s hi 64 u (by omega)
    rw [e]
    intro e2
    have := (ticks_mem 100 u (runEnd s hi 64 u) (by have := h.lt; omega) u).2 ⟨Nat.le_refl _, hr.1⟩
    rw [e2] at this; cases this
  · unfold fieldN itemsN
    rw [join_pieces h]
    apply Nat.eq_of_testBit_eq
    intro n
    rw [maskN_bit]
    rw [Bool.eq_iff_iff, decide_eq_true_eq, List.mem_flatMap]
    constructor
    · rintro ⟨x, hx, hn⟩
      obtain ⟨u, a1, a2, a3, e⟩ := hit x hx
      have hr := runEnd_le s hi 64 u (by omega)
      rw [e, ticks_mem 100 u _ (by have := h.lt; omega)] at hn
      by_cases hnu : n = u
      · subst hnu
        unfold begins at a3
        rw [Bool.and_eq_true] at a3
        exact a3.1
      · exact hr.2.2 n (by omega) hn.2
    · intro hb
      obtain ⟨h1, h2⟩ := h.bits n hb
      obtain ⟨u, a1, a2, a3, a4⟩ := begin_below n h1 hb
      have hr := runEnd_le s hi 64 u (by omega)
      have hge : n ≤ runEnd s hi 64 u := by
        rcases Nat.lt_or_ge (runEnd s hi 64 u) n with hl | hl
        · have hx := runEnd_max s hi 64 u (by omega) (by have := h.lt; omega) (by omega)
          rw [a4 _ (by omega) (by omega)] at hx; cases hx
        · exact hl
      have hx : runTxt u (runEnd s hi 64 u) ∈ txtsUp s lo hi (hi + 1) := txts_mem.2 ⟨u, by omega, a1, a3, rfl⟩
      refine ⟨_, hx, ?_⟩
      rw [runTxt_item a1 hr.1 hr.2.1 (by have := h.lt; omega), ticks_mem 100 u _ (by have := h.lt; omega)]
      exact ⟨a2, hge⟩
end Tide


namespace Tide
open Go
set_option linter.unusedVariables false
def sumB (l : List ByteArray) : Nat := (l.map (fun x => x.size + 1)).sum
theorem tail_length (c : UInt8) : ∀ l : List ByteArray, (Lib.joinTail [c] (l.map (·.data.toList))).length = sumB l
  | [] => rfl
  | x :: l => by
    have ih := tail_length c l
    unfold Lib.joinTail sumB at ih ⊢
    simp only [List.map_cons, List.flatten_cons, List.length_append, List.sum_cons, List.length_cons, List.length_nil, Nat.zero_add] at ih ⊢
    rw [ih, ba_size]
    omega
theorem joinB_sum (c : UInt8) {l : List ByteArray} (h : l ≠ []) : (joinB c l).size + 1 = sumB l := by
  cases l with
  | nil => exact absurd rfl h
  | cons x l =>
    rw [ba_size]
    show (Lib.join (x.data.toList :: l.map (·.data.toList)) [c]).length + 1 = _
    rw [Lib.join_cons, List.length_append, tail_length]
    unfold sumB
    rw [List.map_cons, List.sum_cons, ba_size x]
    omega
theorem sumB_snoc (l : List ByteArray) (x : ByteArray) : sumB (l ++ [x]) = sumB l + (x.size + 1) := by
  unfold sumB; rw [List.map_append, List.sum_append]; simp
theorem runs_sum {s lo hi : Nat} (h : FieldIn s lo hi) : ∀ v, v ≤ hi + 1 → ∃ m, sumB (txtsUp s lo hi v) ≤ 2 * m ∧ lo + m ≤ hi + 2 ∧ ∀ u, v ≤ u → lo ≤ u → begins s lo u = true → lo + m ≤ u
  | 0, _ => ⟨0, Nat.le_refl _, by have := h.le; omega, fun u _ hu _ => hu⟩
  | v + 1, hv => by
    obtain ⟨m, h1, h2, h3⟩ := runs_sum h v (by omega)
    by_cases hb : lo ≤ v ∧ begins s lo v = true
    · rw [txtsUp_yes hb.1 hb.2, sumB_snoc]
      have h4 := h3 v (Nat.le_refl _) hb.1 hb.2
      obtain ⟨r1, r2, r3⟩ := runEnd_le s hi 64 v (by omega)
      have hlt := h.lt
      refine ⟨runEnd s hi 64 v + 2 - lo, ?_, by omega, fun u hu1 hu2 hu3 => ?_⟩
      · by_cases he : runEnd s hi 64 v = v
        · rw [he, runTxt_one]
          have := decB_size (show v < 100 by omega)
          omega
        · have := runTxt_size (a := v) (b := runEnd s hi 64 v) (by omega) (by omega)
          omega
      · have hbit : s.testBit u = true := by unfold begins at hu3; rw [Bool.and_eq_true] at hu3; exact hu3.1
        have hprev : u = lo ∨ s.testBit (u - 1) = false := by
          unfold begins at hu3
          rw [Bool.and_eq_true, Bool.or_eq_true, decide_eq_true_eq] at hu3
          rcases hu3.2 with q | q
          · exact .inl q
          · exact .inr (by simpa using q)
        have hu4 := (h.bits u hbit).2
        have hne : ¬ u ≤ runEnd s hi 64 v := fun hle => by
          rcases hprev with q | q
          · omega
          · by_cases hq : u - 1 = v
            · have hv1 : s.testBit v = true := by have := hb.2; unfold begins at this; rw [Bool.and_eq_true] at this; exact this.1
              rw [hq, hv1] at q; cases q
            · rw [r3 (u - 1) (by omega) (by omega)] at q; cases q
        have hne2 : u ≠ runEnd s hi 64 v + 1 := fun e => by
          have := runEnd_max s hi 64 v (by omega) (by omega) (by omega)
          rw [← e, hbit] at this; cases this
        omega
    · rw [txtsUp_no (by
        by_cases q : lo ≤ v
        · cases hbb : begins s lo v with
          | true => exact absurd ⟨q, hbb⟩ hb
          | false => simp
        · rw [decide_eq_false q]; rfl)]
      exact ⟨m, h1, h2, fun u a b c => h3 u (by omega) b c⟩
theorem join_not {c b : UInt8} (hbc : b ≠ c) {l : List ByteArray} (h : ∀ x ∈ l, b ∉ x.data.toList) : b ∉ (joinB c l).data.toList := by
  cases l with
  | nil => simp [joinB_nil]
  | cons x l =>
    show b ∉ Lib.join (x.data.toList :: l.map (·.data.toList)) [c]
    rw [Lib.join_cons, List.mem_append]
    rintro (q | q)
    · exact h x (by simp) q
    · unfold Lib.joinTail at q
      rw [List.mem_flatten] at q
      obtain ⟨y, hy, hb⟩ := q
      rw [List.mem_map] at hy
      obtain ⟨z, hz, rfl⟩ := hy
      obtain ⟨t, ht, rfl⟩ := List.mem_map.1 hz
      rw [List.mem_append] at hb
      rcases hb with hb | hb
      · simp at hb; exact hbc hb
      · exact h t (List.mem_cons_of_mem _ ht) hb
theorem txts_not {s lo hi : Nat} (hh : hi ≤ 60) {b : UInt8} (hb : digB b = false) (h45 : b ≠ 45) : ∀ x ∈ txtsUp s lo hi (hi + 1), b ∉ x.data.toList := fun x hx => by
  obtain ⟨u, a1, a2, a3, rfl⟩ := txts_mem.1 hx
  have := (runEnd_le s hi 64 u (by omega)).2.1
  exact runTxt_not (by omega) (by omega) hb h45
theorem field_not {s lo hi : Nat} {any : Bool} (hh : hi ≤ 60) : (32 : UInt8) ∉ (fieldTxt s lo hi any).data.toList := by
  unfold fieldTxt
  split
  · simp [star]
  · exact join_not (by decide) (txts_not hh (by decide) (by decide))
theorem field_sum {s lo hi : Nat} {any : Bool} (h : FieldIn s lo hi) : (fieldTxt s lo hi any).size + 1 ≤ 2 * (hi + 2 - lo) := by
  unfold fieldTxt
  have := h.le
  split
  · show 1 + 1 ≤ _; omega
  · obtain ⟨m, h1, h2, _⟩ := runs_sum h (hi + 1) (Nat.le_refl _)
    rw [joinB_sum 44 (txts_ne h)]
    omega
theorem join_star {s lo hi : Nat} (h : FieldIn s lo hi) : joinB 44 (txtsUp s lo hi (hi + 1)) ≠ star := fun e => by
  have h1 := join_pieces h
  rw [e, star_pieces] at h1
  have : (42 : UInt8) ∉ star.data.toList := txts_not (s := s) (lo := lo) h.lt (by decide) (by decide) star (by rw [← h1]; simp)
  exact this (by simp [star])
theorem any_star {ps : List ByteArray} {k : Nat} : isAny ps k = true ↔ pieceAt ps k = star := by
  unfold isAny
  rw [beq_iff_eq, Lib.toList_data]
  constructor
  · intro e; exact ba_ext e
  · intro e; rw [e]; rfl
end Tide
namespace Go.Proofs.YthelnkoohbnjpaaDoor
open Go.RowKit
set_option linter.unusedVariables false
theorem ok_in {c : Cr} (hf : c.fits) (h : c.ok = true) (k : Nat) (hk : k < 5) : Tide.FieldIn (c.set k) (Tide.lim k).1 (Tide.lim k).2 ∧ (∀ j, anK k = some j → c.anyAt k = true → c.set k = Tide.allN (Tide.lim k).1 (Tide.lim k).2) := by
  have h1 := Cr.ok_at h k hk
  have hl := Tide.lim_le k
  obtain ⟨b, hb, hba⟩ : ∃ b, c.okAt k = Tide.okField (c.set k) (Tide.lim k).1 (Tide.lim k).2 b ∧ (∀ j, anK k = some j → b = c.anyAt k) := by
    match k, hk with
    | 0, _ => exact ⟨_, rfl, fun j h => by cases h⟩
    | 1, _ => exact ⟨_, rfl, fun j h => by cases h⟩
    | 2, _ => exact ⟨_, rfl, fun j h => rfl⟩
    | 3, _ => exact ⟨_, rfl, fun j h => by cases h⟩
    | 4, _ => exact ⟨_, rfl, fun j h => rfl⟩
  rw [hb, Tide.okField_iff (c.set k) (c.set_fits hf k) _ _ hl.1 (by omega)] at h1
  refine ⟨⟨h1.1, h1.2.1, hl.1, hl.2⟩, fun j hj ha => ?_⟩
  rw [← hba j hj] at ha
  apply Nat.eq_of_testBit_eq
  intro n
  rw [Tide.allN_bit _ _ n hl.1]
  by_cases hn : (Tide.lim k).1 ≤ n ∧ n ≤ (Tide.lim k).2
  · rw [h1.2.2 ha n hn.1 hn.2, decide_eq_true hn.1, decide_eq_true hn.2]; rfl
  · cases hbt : (c.set k).testBit n with
    | true => exact absurd (h1.2.1 n hbt) hn
    | false => symm; rw [Bool.and_eq_false_iff, decide_eq_false_iff_not, decide_eq_false_iff_not]; omega
theorem txt_read {c : Cr} (hf : c.fits) (h : c.ok = true) (k : Nat) (hk : k < 5) : Tide.fieldOk (Tide.lim k).1 (Tide.lim k).2 (c.txt k) = true ∧ Tide.fieldN (Tide.lim k).1 (Tide.lim k).2 (c.txt k) = c.set k ∧ (∀ j, anK k = some j → (c.txt k = Tide.star ↔ c.anyAt k = true)) := by
  obtain ⟨h1, h2⟩ := ok_in hf h k hk
  unfold Cr.txt Tide.fieldTxt
  split
  · rename_i hs
    have := Tide.star_field k
    exact ⟨this.1, by rw [this.2, hs.1], fun j hj => ⟨fun _ => hs.2, fun _ => rfl⟩⟩
  · rename_i hs
    have := Tide.join_field h1
    refine ⟨this.1, this.2, fun j hj => ⟨fun e => absurd e (Tide.join_star h1), fun ha => ?_⟩⟩
    exact absurd ⟨h2 j hj ha, ha⟩ hs
theorem text_pieces (c : Cr) : Tide.piecesB 32 c.text = c.txts 5 := by
  refine Tide.piecesB_join (by intro e; have := c.txts_len 5; rw [e] at this; cases this) fun x hx => ?_
  obtain ⟨i, _, rfl⟩ := List.mem_map.1 hx
  exact Tide.field_not (Tide.lim_le i).2
theorem txts_at (c : Cr) (k : Nat) (hk : k < 5) : Tide.pieceAt (c.txts 5) k = c.txt k :=
  Tide.pieceAt_get (by unfold Cr.txts; rw [List.getElem?_map, List.getElem?_range hk]; rfl)
theorem text_small {c : Cr} (hf : c.fits) (h : c.ok = true) : c.text.size ≤ 300 := by
  have e := Tide.joinB_sum 32 (l := c.txts 5) (by intro e; have := c.txts_len 5; rw [e] at this; cases this)
  have f0 := Tide.field_sum (any := c.anyAt 0) (ok_in hf h 0 (by decide)).1
  have f1 := Tide.field_sum (any := c.anyAt 1) (ok_in hf h 1 (by decide)).1
  have f2 := Tide.field_sum (any := c.anyAt 2) (ok_in hf h 2 (by decide)).1
  have f3 := Tide.field_sum (any := c.anyAt 3) (ok_in hf h 3 (by decide)).1
  have f4 := Tide.field_sum (any := c.anyAt 4) (ok_in hf h 4 (by decide)).1
  have es : Tide.sumB (c.txts 5) = (c.txt 0).size + 1 + ((c.txt 1).size + 1 + ((c.txt 2).size + 1 + ((c.txt 3).size + 1 + ((c.txt 4).size + 1)))) := rfl
  have e0 : (c.txt 0).size + 1 ≤ 122 := f0
  have e1 : (c.txt 1).size + 1 ≤ 50 := f1
  have e2 : (c.txt 2).size + 1 ≤ 64 := f2
  have e3 : (c.txt 3).size + 1 ≤ 26 := f3
  have e4 : (c.txt 4).size + 1 ≤ 16 := f4
  have : c.text.size + 1 = Tide.sumB (c.txts 5) := e
  omega
/-- what is printed is read as it was -/
theorem cron_back {c : Cr} (hf : c.fits) (h : c.ok = true) : Tide.cronCode c.text = 0 ∧ cronV c.text = c.cells := by
  have hok : Tide.cronOk c.text = true := Tide.cronOk_good (text_small hf h) (by rw [text_pieces, c.txts_len]) fun k hk => by
    rw [text_pieces]; unfold Tide.fOk; rw [txts_at c k hk]; exact (txt_read hf h k hk).1
  have hM : ∀ k, k < 5 → Tide.fM (c.txts 5) k = c.set k := fun k hk => by unfold Tide.fM; rw [txts_at c k hk]; exact (txt_read hf h k hk).2.1
  have hA : ∀ k j, k < 5 → anK k = some j → Tide.isAny (c.txts 5) k = c.anyAt k := fun k j hk hj => by
    rw [Bool.eq_iff_iff, Tide.any_star, txts_at c k hk]; exact (txt_read hf h k hk).2.2 j hj
  refine ⟨?_, ?_⟩
  · unfold Tide.cronCode
    rw [if_neg (by have := text_small hf h; omega), if_pos hok]
  · unfold cronV
    rw [if_pos hok, text_pieces]
    unfold partV pm pa
    rw [hM 0 (by decide), hM 1 (by decide), hM 2 (by decide), hM 3 (by decide), hM 4 (by decide), hA 2 5 (by decide) rfl, hA 4 6 (by decide) rfl]
    rfl
/-- what is read is right -/
theorem cron_read (s : ByteArray) : (Tide.cronOk s = true ∧ Tide.cronCode s = 0 ∧ ∃ c : Cr, cronV s = c.cells ∧ c.fits ∧ c.ok = true) ∨ (Tide.cronCode s ≠ 0 ∧ cronV s = zeroV) := by
  by_cases hok : Tide.cronOk s = true
  · left
    have h2 := hok
    unfold Tide.cronOk at h2
    rw [Bool.and_eq_true, Bool.and_eq_true, decide_eq_true_eq, decide_eq_true_eq, List.all_eq_true] at h2
    have hk : ∀ k, k < 5 → Tide.fOk (Tide.piecesB 32 s) k = true := fun k hk => h2.2 k (List.mem_range.2 hk)
    refine ⟨hok, by unfold Tide.cronCode; rw [if_neg (by omega), if_pos hok], ?_⟩
    obtain ⟨ps, hps⟩ : ∃ ps, Tide.piecesB 32 s = ps := ⟨_, rfl⟩
    rw [hps] at hk
    have hv : cronV s = partV (Tide.piecesB 32 s) 5 := by unfold cronV; rw [if_pos hok]
    have hF : ∀ k, k < 5 → ∀ any : Bool, (any = true → Tide.isAny ps k = true) → Tide.okField (Tide.fM ps k : Nat) (Tide.lim k).1 (Tide.lim k).2 any = true := fun k hk5 any ha => by
      have hl := Tide.lim_le k
      rw [Tide.okField_iff _ (Tide.fM_lt ps k) _ _ hl.1 (by omega)]
      have hkk := hk k hk5
      unfold Tide.fOk Tide.fieldOk at hkk
      rw [List.all_eq_true] at hkk
      refine ⟨fun e => ?_, fun n hn => ?_, fun hany n h1 h2 => ?_⟩
      · have e2 := Tide.maskN_zero (show Tide.maskN (Tide.itemsN (Tide.lim k).1 (Tide.lim k).2 (Tide.piecesB 44 (Tide.pieceAt ps k))) = 0 from e)
        have hne : Tide.piecesB 44 (Tide.pieceAt ps k) ≠ [] := by intro q; have := Tide.piecesB_length 44 (Tide.pieceAt ps k); rw [q] at this; simp at this
        obtain ⟨x, l, hx⟩ := List.exists_cons_of_ne_nil hne
        have h3 := hkk x (by rw [hx]; simp)
        unfold Tide.itemsN at e2
        rw [hx, List.flatMap_cons] at e2
        have e4 := (List.append_eq_nil_iff.1 e2).1
        rw [e4] at h3; cases h3
      · have h4 : n ∈ Tide.itemsN (Tide.lim k).1 (Tide.lim k).2 (Tide.piecesB 44 (Tide.pieceAt ps k)) := by
          have := Tide.maskN_bit (Tide.itemsN (Tide.lim k).1 (Tide.lim k).2 (Tide.piecesB 44 (Tide.pieceAt ps k))) n
          rw [show Tide.maskN (Tide.itemsN (Tide.lim k).1 (Tide.lim k).2 (Tide.piecesB 44 (Tide.pieceAt ps k))) = Tide.fM ps k from rfl, hn] at this
          simpa using this.symm
        obtain ⟨x, _, hx⟩ := List.mem_flatMap.1 h4
        have := Tide.itemN_in (by omega) n hx
        omega
      · have e := Tide.any_star.1 (ha hany)
        have : Tide.fM ps k = Tide.allN (Tide.lim k).1 (Tide.lim k).2 := by unfold Tide.fM; rw [e]; exact (Tide.star_field k).2
        rw [this, Tide.allN_bit _ _ n hl.1, decide_eq_true h1, decide_eq_true h2]; rfl
    refine ⟨⟨Tide.fM ps 0, Tide.fM ps 1, Tide.fM ps 2, Tide.fM ps 3, Tide.fM ps 4, Tide.isAny ps 2, Tide.isAny ps 4⟩, by rw [hv, hps]; rfl, ⟨Tide.fM_lt _ _, Tide.fM_lt _ _, Tide.fM_lt _ _, Tide.fM_lt _ _, Tide.fM_lt _ _⟩, Cr.ok_of fun i hi => ?_⟩
    match i, hi with
    | 0, _ => exact hF 0 (by decide) false (fun h => by cases h)
    | 1, _ => exact hF 1 (by decide) false (fun h => by cases h)
    | 2, _ => exact hF 2 (by decide) _ id
    | 3, _ => exact hF 3 (by decide) false (fun h => by cases h)
    | 4, _ => exact hF 4 (by decide) _ id
  · right
    refine ⟨?_, by unfold cronV; rw [if_neg hok]⟩
    unfold Tide.cronCode
    by_cases q : 300 < s.size
    · rw [if_pos q]; decide
    · rw [if_neg q, if_neg hok]; decide
end Go.Proofs.YthelnkoohbnjpaaDoor


namespace Tide
open Go
set_option linter.unusedVariables false
theorem dig_of {n : Nat} (h : n < 10) : digB (UInt8.ofNat (48 + n)) = true ∧ (UInt8.ofNat (48 + n)).toNat = 48 + n := by
  have e : (UInt8.ofNat (48 + n)).toNat = 48 + n := by rw [UInt8.toNat_ofNat']; omega
  refine ⟨?_, e⟩
  unfold digB
  rw [e, decide_eq_true (by omega), decide_eq_true (by omega)]; rfl
theorem dec_ne (u : Nat) : Lib.decDigits u ≠ [] := by
  intro e
  have h := Lib.decDigits_length u
  rw [e] at h
  have := Lib.nDigits_pos u
  simp at h; omega
theorem dec_all (u : Nat) : (Lib.decDigits u).all digB = true := by
  induction u using Nat.strongRecOn with
  | _ u ih =>
    by_cases h : u < 10
    · rw [Lib.decDigits_one h, List.all_cons, List.all_nil, (dig_of h).1]; rfl
    · rw [Lib.decDigits, dif_neg h, List.all_append, ih (u / 10) (by omega), List.all_cons, List.all_nil, (dig_of (show u % 10 < 10 by omega)).1]; rfl
theorem dec_val (u : Nat) : valL (Lib.decDigits u) = (u : Int) := by
  induction u using Nat.strongRecOn with
  | _ u ih =>
    by_cases h : u < 10
    · rw [Lib.decDigits_one h, show [UInt8.ofNat (48 + u)] = [] ++ [UInt8.ofNat (48 + u)] from rfl, valL_snoc, (dig_of h).2]
      show 10 * (0 : Int) + _ = _
      omega
    · rw [Lib.decDigits, dif_neg h, valL_snoc, ih (u / 10) (by omega), (dig_of (show u % 10 < 10 by omega)).2]
      omega
theorem dec_head (u : Nat) (h : (Lib.decDigits u).head? = some 48) : u = 0 := by
  induction u using Nat.strongRecOn with
  | _ u ih =>
    by_cases h1 : u < 10
    · rw [Lib.decDigits_one h1] at h
      have e : UInt8.ofNat (48 + u) = 48 := by simpa using h
      have := (dig_of h1).2
      rw [e] at this
      have h48 : (48 : UInt8).toNat = 48 := rfl
      omega
    · rw [Lib.decDigits, dif_neg h1] at h
      obtain ⟨b, l, hl⟩ := List.exists_cons_of_ne_nil (dec_ne (u / 10))
      have := ih (u / 10) (by omega) (by rw [hl] at h ⊢; exact h)
      omega
theorem dec_len {u : Nat} (h : u < 10000000) : (Lib.decDigits u).length ≤ 7 := by
  rw [Lib.decDigits_length]
  by_cases h0 : u < 10
  · rw [Lib.nDigits_small h0]; decide
  · rcases (show (10 ^ 1 ≤ u ∧ u < 10 ^ 2) ∨ (10 ^ 2 ≤ u ∧ u < 10 ^ 3) ∨ (10 ^ 3 ≤ u ∧ u < 10 ^ 4) ∨ (10 ^ 4 ≤ u ∧ u < 10 ^ 5) ∨ (10 ^ 5 ≤ u ∧ u < 10 ^ 6) ∨ (10 ^ 6 ≤ u ∧ u < 10 ^ 7) by omega) with h | h | h | h | h | h
    · rw [Lib.nDigits_unique 1 u h.1 h.2]; decide
    · rw [Lib.nDigits_unique 2 u h.1 h.2]; decide
    · rw [Lib.nDigits_unique 3 u h.1 h.2]; decide
    · rw [Lib.nDigits_unique 4 u h.1 h.2]; decide
    · rw [Lib.nDigits_unique 5 u h.1 h.2]; decide
    · rw [Lib.nDigits_unique 6 u h.1 h.2]; decide
theorem dec_not {u : Nat} {c : UInt8} (h : digB c = false) : c ∉ Lib.decDigits u := fun hm => by
  have := List.all_eq_true.1 (dec_all u) c hm
  rw [h] at this; cases this
theorem ito_not {n : Int} {c : UInt8} (h : digB c = false) (h45 : c ≠ 45) : c ∉ (itoB n).data.toList := by
  show c ∉ Lib.itoa n
  unfold Lib.itoa
  split
  · rw [List.mem_cons]
    rintro (e | e)
    · exact h45 e
    · exact dec_not h e
  · exact dec_not h
theorem ito_whole {n : Int} (h1 : -10000000 < n) (h2 : n < 10000000) : wholeOk 7 (itoB n).data.toList = true ∧ wholeV 7 (itoB n).data.toList = n := by
  show wholeOk 7 (Lib.itoa n) = true ∧ wholeV 7 (Lib.itoa n) = n
  unfold Lib.itoa
  have hpos : ∀ u, 1 ≤ (Lib.decDigits u).length := fun u => List.length_pos_iff.2 (dec_ne u)
  by_cases h : n < 0
  · rw [if_pos h]
    have hm : minusL (45 :: Lib.decDigits n.natAbs) = true := rfl
    have hd : digsL (45 :: Lib.decDigits n.natAbs) = Lib.decDigits n.natAbs := rfl
    have g := whole_good (l := 45 :: Lib.decDigits n.natAbs) (by rw [hd]; exact hpos _) (by rw [hd]; exact dec_len (by omega)) (by
      rw [hd]
      rintro ⟨q, _⟩
      have := dec_head _ q
      omega) (by rw [hd]; exact dec_all _)
    refine ⟨g.1, ?_⟩
    rw [g.2, hm, if_pos rfl, hd, dec_val]
    omega
  · rw [if_neg h]
    have hm : minusL (Lib.decDigits n.toNat) = false := by
      unfold minusL
      cases hh : (Lib.decDigits n.toNat).head? with
      | none => rfl
      | some b =>
        have hb : b ≠ 45 := by
          rintro rfl
          exact dec_not (u := n.toNat) (c := 45) (by decide) (List.mem_of_mem_head? hh)
        simpa using hb
    have hd : digsL (Lib.decDigits n.toNat) = Lib.decDigits n.toNat := by unfold digsL; rw [hm]; rfl
    have g := whole_good (l := Lib.decDigits n.toNat) (by rw [hd]; exact hpos _) (by rw [hd]; exact dec_len (by omega)) (by
      rw [hd, hm]
      rintro ⟨q, q2⟩
      have e := dec_head _ q
      rcases q2 with q2 | q2
      · rw [e, Lib.decDigits_one (by decide)] at q2; exact absurd q2 (by decide)
      · cases q2) (by rw [hd]; exact dec_all _)
    refine ⟨g.1, ?_⟩
    rw [g.2, hm, if_neg (by simp), hd, dec_val]
    omega
theorem row_list (w : ByteArray) (l : List Int) : (rowB w l).data.toList = w.data.toList ++ Lib.joinTail [32] (l.map fun n => (itoB n).data.toList) := by
  induction l generalizing w with
  | nil => show w.data.toList = w.data.toList ++ []; rw [List.append_nil]
  | cons n l ih =>
    have e : Lib.joinTail [32] ((n :: l).map fun n => (itoB n).data.toList) = 32 :: ((itoB n).data.toList ++ Lib.joinTail [32] (l.map fun n => (itoB n).data.toList)) := by
      rw [List.map_cons]; unfold Lib.joinTail; simp
    rw [e]
    show (rowB (w ++ (⟨#[32]⟩ ++ itoB n)) l).data.toList = _
    rw [ih]
    simp only [ByteArray.data_append, Array.toList_append, List.append_assoc]
    rfl
theorem tail_not {c : UInt8} (h32 : c ≠ 32) (l : List Int) (h : digB c = false) (h45 : c ≠ 45) : c ∉ Lib.joinTail [32] (l.map fun n => (itoB n).data.toList) := by
  unfold Lib.joinTail
  rw [List.mem_flatten]
  rintro ⟨y, hy, hb⟩
  rw [List.mem_map] at hy
  obtain ⟨z, hz, rfl⟩ := hy
  obtain ⟨n, _, rfl⟩ := List.mem_map.1 hz
  rw [List.mem_append] at hb
  rcases hb with hb | hb
  · simp at hb; exact h32 hb
  · exact ito_not h h45 hb
theorem row_not {w : ByteArray} {l : List Int} {c : UInt8} (hw : c ∉ w.data.toList) (h32 : c ≠ 32) (h : digB c = false) (h45 : c ≠ 45) : c ∉ (rowB w l).data.toList := by
  rw [row_list, List.mem_append]
  rintro (q | q)
  · exact hw q
  · exact tail_not h32 l h h45 q
theorem row_words {w : ByteArray} (l : List Int) (hw : (32 : UInt8) ∉ w.data.toList) : piecesB 32 (rowB w l) = w :: l.map itoB := by
  symm
  apply pieces_isB
  rw [row_list, pieces_tail hw (fun y hy => by
    obtain ⟨n, _, rfl⟩ := List.mem_map.1 hy
    exact ito_not (by decide) (by decide)), List.map_cons, List.map_map]
  rfl
theorem row_words2 {x y : ByteArray} (l : List Int) (hx : (32 : UInt8) ∉ x.data.toList) (hy : (32 : UInt8) ∉ y.data.toList) : piecesB 32 (rowB ((x ++ ⟨#[32]⟩) ++ y) l) = x :: y :: l.map itoB := by
  symm
  apply pieces_isB
  rw [row_list, show ((x ++ ⟨#[32]⟩) ++ y).data.toList ++ Lib.joinTail [32] (l.map fun n => (itoB n).data.toList) = x.data.toList ++ 32 :: (y.data.toList ++ Lib.joinTail [32] (l.map fun n => (itoB n).data.toList)) by
    simp [ByteArray.data_append], pieces_app _ hx, pieces_tail hy (fun z hz => by
    obtain ⟨n, _, rfl⟩ := List.mem_map.1 hz
    exact ito_not (by decide) (by decide)), List.map_cons, List.map_cons, List.map_map]
  rfl
/-- a text that begins with a whole line -/
theorem cut_line {rest x l : ByteArray} (h : rest.data.toList = x.data.toList ++ 10 :: l.data.toList) (hx : (10 : UInt8) ∉ x.data.toList) : cutZ 10 rest = true ∧ cutX 10 rest = x ∧ cutY 10 rest = l := by
  have e := cutB_app (c := 10) l.data.toList hx
  rw [← h] at e
  refine ⟨by unfold cutZ; rw [e], ba_ext (by unfold cutX; rw [e]), ba_ext (by unfold cutY; rw [e])⟩
end Tide
namespace Go.Proofs.YthelnkoohbnjpaaDoor
open Go.RowKit
set_option linter.unusedVariables false
theorem w_ito {n : Int} (h1 : -10000000 < n) (h2 : n < 10000000) : wOk (Tide.itoB n) = true ∧ wV (Tide.itoB n) = n := Tide.ito_whole h1 h2
theorem read_step {f i : Nat} {p p' : Pln} {rest x l : ByteArray} {ws : List ByteArray} (h : rest.data.toList = x.data.toList ++ 10 :: l.data.toList) (hx : (10 : UInt8) ∉ x.data.toList) (hw : Tide.piecesB 32 x = ws) (hl : lineN i p ws = some p') : readGo (f + 1) i p rest = readGo f (i + 1) p' l := by
  obtain ⟨h1, h2, h3⟩ := Tide.cut_line h hx
  have hs : rest.size ≠ 0 := by
    rw [Tide.ba_size, h]; simp
  conv => lhs; unfold readGo
  rw [if_neg (by omega), if_neg (by rw [h1]; simp)]
  unfold wordsOf
  rw [h2, hw, hl, h3]
theorem words4 {a b c d : Int} (h : ∀ x ∈ [a, b, c, d], -10000000 < x ∧ x < 10000000) : wordsOk ([a, b, c, d].map Tide.itoB) 4 = true := by
  unfold wordsOk
  rw [List.length_map, decide_eq_true (show [a, b, c, d].length = 4 from rfl), Bool.true_and, List.all_eq_true]
  intro x hx
  obtain ⟨n, hn, rfl⟩ := List.mem_map.1 hx
  exact (w_ito (h n hn).1 (h n hn).2).1
theorem v4 {a b c d : Int} (h : ∀ x ∈ [a, b, c, d], -10000000 < x ∧ x < 10000000) : wV (Tide.itoB a) = a ∧ wV (Tide.itoB b) = b ∧ wV (Tide.itoB c) = c ∧ wV (Tide.itoB d) = d :=
  ⟨(w_ito (h a (by simp)).1 (h a (by simp)).2).2, (w_ito (h b (by simp)).1 (h b (by simp)).2).2, (w_ito (h c (by simp)).1 (h c (by simp)).2).2, (w_ito (h d (by simp)).1 (h d (by simp)).2).2⟩
theorem line_row {i : Nat} {p : Pln} {w : ByteArray} {a b c d : Int} (h : ∀ x ∈ [a, b, c, d], -10000000 < x ∧ x < 10000000) : rowOk w (w :: [a, b, c, d].map Tide.itoB) = true := by
  unfold rowOk
  rw [decide_eq_true (show Tide.pieceAt (w :: [a, b, c, d].map Tide.itoB) 0 = w from rfl), Bool.true_and]
  exact words4 h
/-- all numbers of a plan that is right are short -/
structure Pln.short (p : Pln) : Prop where
  i0 : ∀ x ∈ [p.mn, p.mx, p.poll, p.cool], -10000000 < x ∧ x < 10000000
  i1 : ∀ x ∈ [p.tol, p.back, p.after, p.shift], -10000000 < x ∧ x < 10000000
  i2 : ∀ x ∈ [p.up.win, p.up.pods, p.up.pct, p.up.per], -10000000 < x ∧ x < 10000000
  i3 : ∀ x ∈ [p.down.win, p.down.pods, p.down.pct, p.down.per], -10000000 < x ∧ x < 10000000
  name : nameOk p.name = true
  each : ∀ t ∈ p.trigs, trigE t = 0
theorem planE_short {p : Pln} (h : planE p = 0) : p.short := by
  unfold planE at h
  split at h
  · cases h
  · split at h
    · cases h
    · split at h
      · cases h
      · rename_i h1 h2 h3
        have h1' : nameOk p.name = true := by simpa using h1
        have h3' : p.nums = true := by simpa using h3
        unfold Pln.nums paceOk at h3'
        simp only [Bool.and_eq_true, wiB_iff] at h3'
        obtain ⟨a, b, c, d, e, f, g, i, ⟨u1, u2, u3, u4⟩, ⟨d1, d2, d3, d4⟩⟩ := h3'
        refine ⟨?_, ?_, ?_, ?_, h1', trigsE_mem h⟩
        · exact four_in (lo := 0) (hi := 0) (by omega) (by omega) (by omega) (by omega)
        · exact four_in (lo := 0) (hi := 0) (by omega) (by omega) (by omega) (by omega)
        · exact four_in (lo := 0) (hi := 0) (by omega) (by omega) (by omega) (by omega)
        · exact four_in (lo := 0) (hi := 0) (by omega) (by omega) (by omega) (by omega)
theorem name_not {s : ByteArray} (h : nameOk s = true) {c : UInt8} (hc : byteOk c = false) : c ∉ s.data.toList := fun hm => by
  unfold nameOk at h
  rw [Bool.and_eq_true, ← Array.all_toList, List.all_eq_true] at h
  have := h.1 c hm
  rw [hc] at this; cases this
theorem zero_is {c : Cr} (h : c.isZero = true) : c = crZ := by
  obtain ⟨a1, a2, a3, a4, a5, a6, a7⟩ := c
  unfold Cr.isZero at h
  simp only [Bool.and_eq_true, beq_iff_eq, Bool.not_eq_true'] at h
  obtain ⟨⟨⟨⟨⟨⟨h1, h2⟩, h3⟩, h4⟩, h5⟩, h6⟩, h7⟩ := h
  subst h1 h2 h3 h4 h5 h6 h7
  rfl
theorem Cr.cells_inj {a b : Cr} (h : a.cells = b.cells) : a = b := by
  obtain ⟨a1, a2, a3, a4, a5, a6, a7⟩ := a
  obtain ⟨b1, b2, b3, b4, b5, b6, b7⟩ := b
  have h' := congrArg Array.toList h
  simp only [Cr.cells, List.cons.injEq, Value.int.injEq, Value.bool.injEq, true_and, and_true, Int.ofNat_inj] at h'
  simp only [Cr.mk.injEq]
  exact h'
theorem crOf_cells {s : ByteArray} (h : Tide.cronOk s = true) : cronV s = (crOf s).cells := by
  unfold cronV; rw [if_pos h]; rfl
theorem cron_ok_back {c : Cr} (hf : c.fits) (h : c.ok = true) : Tide.cronOk c.text = true ∧ crOf c.text = c := by
  obtain ⟨h1, h2⟩ := cron_back hf h
  have hok : Tide.cronOk c.text = true := by
    cases hk : Tide.cronOk c.text with
    | true => rfl
    | false =>
      unfold Tide.cronCode at h1
      rw [hk] at h1
      split at h1
      · cases h1
      · rw [if_neg (by simp)] at h1; cases h1
  exact ⟨hok, Cr.cells_inj (by rw [← crOf_cells hok]; exact h2)⟩
theorem field_not2 {s lo hi : Nat} {any : Bool} (hh : hi ≤ 60) {b : UInt8} (hb : Tide.digB b = false) (h45 : b ≠ 45) (h42 : b ≠ 42) (h44 : b ≠ 44) : b ∉ (Tide.fieldTxt s lo hi any).data.toList := by
  unfold Tide.fieldTxt
  split
  · simp [Tide.star, h42]
  · exact Tide.join_not h44 (Tide.txts_not hh hb h45)
theorem txts_not2 {c : Cr} {b : UInt8} (hb : Tide.digB b = false) (h45 : b ≠ 45) (h42 : b ≠ 42) (h44 : b ≠ 44) : ∀ x ∈ c.txts 5, b ∉ x.data.toList := fun x hx => by
  obtain ⟨i, _, rfl⟩ := List.mem_map.1 hx
  exact field_not2 (Tide.lim_le i).2 hb h45 h42 h44
theorem text_not {c : Cr} {b : UInt8} (hb : Tide.digB b = false) (h45 : b ≠ 45) (h42 : b ≠ 42) (h44 : b ≠ 44) (h32 : b ≠ 32) : b ∉ c.text.data.toList := Tide.join_not h32 (txts_not2 hb h45 h42 h44)
theorem txts_len5 (c : Cr) : (c.txts 5).length = 5 := c.txts_len 5
/-- the words of a timed trigger's line -/
def spanRow (n : Int) (a b : ByteArray) : ByteArray := (((⟨#[115, 112, 97, 110, 32]⟩ : ByteArray) ++ Tide.itoB n ++ ⟨#[32]⟩) ++ a) ++ ⟨#[32, 47, 32]⟩ ++ b
theorem spanTxt_row (n : Int) (a b : ByteArray) : spanTxt n a b = spanRow n a b ++ ⟨#[10]⟩ := by
  unfold spanTxt spanRow; rfl
theorem join_list (c : UInt8) {x : ByteArray} (l : List ByteArray) : (Tide.joinB c (x :: l)).data.toList = x.data.toList ++ Lib.joinTail [c] (l.map (·.data.toList)) := by
  show Lib.join (x.data.toList :: l.map (·.data.toList)) [c] = _
  rw [Lib.join_cons]
theorem pieces_tail2 {c : UInt8} : ∀ {xs : List (List UInt8)} {x : List UInt8} (l : List UInt8), c ∉ x → (∀ y ∈ xs, c ∉ y) → Tide.pieces c (x ++ Lib.joinTail [c] xs ++ c :: l) = x :: xs ++ Tide.pieces c l
  | [], x, l, h, _ => by
    show Tide.pieces c (x ++ [] ++ c :: l) = _
    rw [List.append_nil, Tide.pieces_app l h]; rfl
  | y :: xs, x, l, h, hs => by
    have ih := pieces_tail2 (xs := xs) (x := y) l (hs y (by simp)) (fun z hz => hs z (List.mem_cons_of_mem _ hz))
    have e : Lib.joinTail [c] (y :: xs) = c :: (y ++ Lib.joinTail [c] xs) := by
      unfold Lib.joinTail
      simp
    rw [e, List.append_assoc, List.cons_append, Tide.pieces_app _ h, ih]
    rfl
theorem span_words (n : Int) (a b : Cr) : Tide.piecesB 32 (spanRow n a.text b.text) = wdSpan :: Tide.itoB n :: (a.txts 5 ++ wdSlash :: b.txts 5) := by
  symm
  apply Tide.pieces_isB
  obtain ⟨x, xs, hx⟩ : ∃ x xs, a.txts 5 = x :: xs := List.exists_cons_of_ne_nil (by intro e; have := txts_len5 a; rw [e] at this; cases this)
  obtain ⟨y, ys, hy⟩ : ∃ y ys, b.txts 5 = y :: ys := List.exists_cons_of_ne_nil (by intro e; have := txts_len5 b; rw [e] at this; cases this)
  have ha := txts_not2 (c := a) (b := 32) (by decide) (by decide) (by decide) (by decide)
  have hb := txts_not2 (c := b) (b := 32) (by decide) (by decide) (by decide) (by decide)
  have ea : a.text.data.toList = x.data.toList ++ Lib.joinTail [32] (xs.map (·.data.toList)) := by
    show (Tide.joinB 32 (a.txts 5)).data.toList = _
    rw [hx, join_list]
  have eb : b.text.data.toList = y.data.toList ++ Lib.joinTail [32] (ys.map (·.data.toList)) := by
    show (Tide.joinB 32 (b.txts 5)).data.toList = _
    rw [hy, join_list]
  rw [hx] at ha ⊢
  rw [hy] at hb ⊢
  have e : (spanRow n a.text b.text).data.toList = wdSpan.data.toList ++ 32 :: ((Tide.itoB n).data.toList ++ 32 :: (x.data.toList ++ Lib.joinTail [32] (xs.map (·.data.toList)) ++ 32 :: (wdSlash.data.toList ++ 32 :: (y.data.toList ++ Lib.joinTail [32] (ys.map (·.data.toList)))))) := by
    rw [← ea, ← eb]
    unfold spanRow
    simp only [ByteArray.data_append, Array.toList_append, List.append_assoc]
    rfl
  rw [e, Tide.pieces_app _ (by decide), Tide.pieces_app _ (Tide.ito_not (by decide) (by decide)), pieces_tail2 _ (ha x (by simp)) (fun z hz => by
    obtain ⟨t, ht, rfl⟩ := List.mem_map.1 hz
    exact ha t (List.mem_cons_of_mem _ ht)), Tide.pieces_app _ (by decide), Tide.pieces_tail (hb y (by simp)) (fun z hz => by
    obtain ⟨t, ht, rfl⟩ := List.mem_map.1 hz
    exact hb t (List.mem_cons_of_mem _ ht))]
  simp
theorem idx_at (x : ByteArray) : ∀ (l r : List ByteArray) (i : Nat), (∀ z ∈ l, z ≠ x) → Lib.idxFromS (l ++ x :: r) x i = ((i + l.length : Nat) : Int)
  | [], r, i, _ => by
    show Lib.idxFromS (x :: r) x i = _
    unfold Lib.idxFromS
    rw [if_pos (by simp)]
    simp
  | z :: l, r, i, h => by
    have hz := h z (by simp)
    rw [List.cons_append]
    unfold Lib.idxFromS
    rw [if_neg (by simpa using hz), idx_at x l r (i + 1) (fun t ht => h t (List.mem_cons_of_mem _ ht))]
    simp only [List.length_cons]
    omega
theorem span_slash (n : Int) (a b : Cr) : slashAt (wdSpan :: Tide.itoB n :: (a.txts 5 ++ wdSlash :: b.txts 5)) = 7 := by
  unfold slashAt Lib.idxOfS
  have h := idx_at wdSlash (wdSpan :: Tide.itoB n :: a.txts 5) (b.txts 5) 0 (fun z hz => by
    have h47 : (47 : UInt8) ∈ wdSlash.data.toList := by decide
    rintro rfl
    rcases List.mem_cons.1 hz with e | hz
    · rw [e] at h47; exact absurd h47 (by decide)
    · rcases List.mem_cons.1 hz with e | hz
      · rw [e] at h47; exact Tide.ito_not (by decide) (by decide) h47
      · exact txts_not2 (b := 47) (by decide) (by decide) (by decide) (by decide) _ hz h47)
  rw [List.cons_append, List.cons_append, List.length_cons, List.length_cons, txts_len5] at h
  exact h
theorem trig_row {t : Trg} (he : trigE t = 0) (hf : t.fits) : ∃ x : ByteArray, t.text = x ++ ⟨#[10]⟩ ∧ (10 : UInt8) ∉ x.data.toList ∧ trigN (Tide.piecesB 32 x) = some t := by
  obtain ⟨kind, target, act, a, b⟩ := t
  have two : ∀ (k : Int) (w : ByteArray), kind = k → (k = 1 ∨ k = 2) → (10 : UInt8) ∉ w.data.toList → (32 : UInt8) ∉ w.data.toList → (∀ ws, Tide.pieceAt ws 0 = w → trigN ws = twoN k ws) →
      (10 : UInt8) ∉ (Tide.rowB w [target, act]).data.toList ∧ trigN (Tide.piecesB 32 (Tide.rowB w [target, act])) = some ⟨kind, target, act, a, b⟩ := by
    intro k w hk hk2 h10 h32 hT
    subst hk
    refine ⟨Tide.row_not h10 (by decide) (by decide) (by decide), ?_⟩
    unfold trigE at he
    rw [if_pos hk2] at he
    split at he
    · rename_i h1
      simp only [Bool.and_eq_true, wiB_iff] at h1
      obtain ⟨⟨t1, t2⟩, ⟨a1, a2⟩, za, zb⟩ := h1
      have g1 := w_ito (n := target) (by show -10000000 < target; have : (1 : Int) ≤ target := t1; omega) (by have : target ≤ (1000000 : Int) := t2; omega)
      have g2 := w_ito (n := act) (by have : (0 : Int) ≤ act := a1; omega) (by have : act ≤ (1000000 : Int) := a2; omega)
      rw [Tide.row_words _ h32, hT _ rfl]
      unfold twoN
      have hw : wordsOk ((w :: [target, act].map Tide.itoB).drop 1) 2 = true := by
        unfold wordsOk
        show (decide (([target, act].map Tide.itoB).length = 2) && _) = true
        rw [decide_eq_true (show ([target, act].map Tide.itoB).length = 2 from rfl), Bool.true_and, List.all_eq_true]
        intro x hx
        simp only [List.drop_succ_cons, List.drop_zero, List.map_cons, List.map_nil, List.mem_cons, List.not_mem_nil, or_false] at hx
        rcases hx with rfl | rfl
        · exact g1.1
        · exact g2.1
      rw [if_pos hw]
      have ea : a = crZ := zero_is za
      have eb : b = crZ := zero_is zb
      rw [ea, eb]
      show some (⟨kind, wV (Tide.itoB target), wV (Tide.itoB act), crZ, crZ⟩ : Trg) = _
      rw [g1.2, g2.2]
    · cases he
  by_cases h1 : kind = 1
  · obtain ⟨q1, q2⟩ := two 1 wdLag h1 (.inl rfl) (by decide) (by decide) (fun ws h => if_pos h)
    exact ⟨_, by unfold Trg.text; rw [if_pos h1]; rfl, q1, q2⟩
  · by_cases h2 : kind = 2
    · obtain ⟨q1, q2⟩ := two 2 wdDepth h2 (.inr rfl) (by decide) (by decide) (fun ws h => by unfold trigN; rw [h, if_neg (by decide), if_pos rfl])
      exact ⟨_, by unfold Trg.text; rw [if_neg h1, if_pos h2]; rfl, q1, q2⟩
    · unfold trigE at he
      rw [if_neg (by show ¬ (kind = 1 ∨ kind = 2); omega)] at he
      split at he
      · rename_i h3
        have h3' : kind = 3 := h3
        split at he
        · rename_i h4
          simp only [Bool.and_eq_true, wiB_iff, beq_iff_eq] at h4
          obtain ⟨⟨t1, t2⟩, ha0⟩ := h4
          have t1' : (1 : Int) ≤ target := t1
          have t2' : target ≤ (50 : Int) := t2
          have ha0' : act = 0 := ha0
          have g1 := w_ito (n := target) (by omega) (by omega)
          have hab : a.ok = true ∧ b.ok = true := by
            unfold spanE at he
            unfold Cr.err at he
            revert he
            cases a.ok <;> cases b.ok <;> simp
          obtain ⟨oa, ca⟩ := cron_ok_back hf.1 hab.1
          obtain ⟨ob, cb⟩ := cron_ok_back hf.2 hab.2
          refine ⟨spanRow target a.text b.text, by unfold Trg.text; rw [if_neg h1, if_neg h2]; exact spanTxt_row _ _ _, ?_, ?_⟩
          · unfold spanRow
            simp only [ByteArray.data_append, Array.toList_append, List.mem_append]
            rintro (((((q | q) | q) | q) | q) | q)
            · exact absurd q (by decide)
            · exact Tide.ito_not (by decide) (by decide) q
            · exact absurd q (by decide)
            · exact text_not (by decide) (by decide) (by decide) (by decide) (by decide) q
            · exact absurd q (by decide)
            · exact text_not (by decide) (by decide) (by decide) (by decide) (by decide) q
          · rw [span_words]
            show (if wdSpan = wdLag then _ else if wdSpan = wdDepth then _ else if wdSpan = wdSpan then _ else none) = _
            rw [if_neg (show ¬ wdSpan = wdLag by decide), if_neg (show ¬ wdSpan = wdDepth by decide), if_pos (show wdSpan = wdSpan from rfl)]
            have hsl := span_slash target a b
            have l5 := txts_len5 a
            have eA : spanA (wdSpan :: Tide.itoB target :: (a.txts 5 ++ wdSlash :: b.txts 5)) = a.text := by
              unfold spanA
              rw [hsl]
              show Tide.joinB 32 (((wdSpan :: Tide.itoB target :: (a.txts 5 ++ wdSlash :: b.txts 5)).take 7).drop 2) = _
              rw [show (wdSpan :: Tide.itoB target :: (a.txts 5 ++ wdSlash :: b.txts 5)).take 7 = wdSpan :: Tide.itoB target :: (a.txts 5 ++ wdSlash :: b.txts 5).take 5 from rfl, List.take_left' l5]
              rfl
            have eB : spanB (wdSpan :: Tide.itoB target :: (a.txts 5 ++ wdSlash :: b.txts 5)) = b.text := by
              unfold spanB
              rw [hsl]
              show Tide.joinB 32 ((wdSpan :: Tide.itoB target :: (a.txts 5 ++ wdSlash :: b.txts 5)).drop 8) = _
              rw [show (wdSpan :: Tide.itoB target :: (a.txts 5 ++ wdSlash :: b.txts 5)).drop 8 = (a.txts 5 ++ wdSlash :: b.txts 5).drop 6 from rfl, show (6 : Nat) = (a.txts 5).length + 1 by rw [l5], List.drop_append]
              rfl
            have hk : timedOk (wdSpan :: Tide.itoB target :: (a.txts 5 ++ wdSlash :: b.txts 5)) = true := by
              unfold timedOk
              rw [eA, eB, oa, ob, hsl, show Tide.pieceAt (wdSpan :: Tide.itoB target :: (a.txts 5 ++ wdSlash :: b.txts 5)) 1 = Tide.itoB target from rfl, g1.1]
              rfl
            unfold timedN
            rw [if_pos hk, eA, eB, ca, cb, show Tide.pieceAt (wdSpan :: Tide.itoB target :: (a.txts 5 ++ wdSlash :: b.txts 5)) 1 = Tide.itoB target from rfl, g1.2, h3', ha0']
        · cases he
      · cases he
theorem size_step {rest x l : ByteArray} (h : rest.data.toList = x.data.toList ++ 10 :: l.data.toList) : l.size < rest.size := by
  have h1 := congrArg List.length h
  have h2 := Tide.ba_size l
  have h3 := Tide.ba_size rest
  rw [List.length_append, List.length_cons] at h1
  omega
/-- the lines of triggers are read as they were -/
theorem trigs_read : ∀ (l : List Trg) (f i : Nat) (q : Pln) (rest : ByteArray), (∀ t ∈ l, trigE t = 0 ∧ t.fits) → rest.data.toList = l.flatMap (fun t => t.text.data.toList) → 4 ≤ i → rest.size < f → readGo f i q rest = (some { q with trigs := q.trigs ++ l }, 0)
  | [], f, i, q, rest, _, hr, h4, hf => by
    obtain ⟨g, rfl⟩ : ∃ g, f = g + 1 := ⟨f - 1, by omega⟩
    have hs : rest.size = 0 := by rw [Tide.ba_size, hr]; rfl
    unfold readGo
    rw [if_pos ⟨h4, hs⟩, List.append_nil]
  | t :: l, f, i, q, rest, hl, hr, h4, hf => by
    obtain ⟨g, rfl⟩ : ∃ g, f = g + 1 := ⟨f - 1, by omega⟩
    obtain ⟨x, e1, e2, e3⟩ := trig_row (hl t (by simp)).1 (hl t (by simp)).2
    have hr' : rest.data.toList = x.data.toList ++ 10 :: (⟨(l.flatMap (fun t => t.text.data.toList)).toArray⟩ : ByteArray).data.toList := by
      rw [hr, List.flatMap_cons, e1]
      simp [ByteArray.data_append]
    obtain ⟨j, rfl⟩ : ∃ j, i = j + 4 := ⟨i - 4, by omega⟩
    rw [read_step (p' := { q with trigs := q.trigs ++ [t] }) hr' e2 rfl (by show (trigN (Tide.piecesB 32 x)).map _ = _; rw [e3]; rfl)]
    rw [trigs_read l g (j + 4 + 1) _ ⟨(l.flatMap (fun t => t.text.data.toList)).toArray⟩ (fun u hu => hl u (List.mem_cons_of_mem _ hu)) (by rw [List.toList_toArray]) (by omega) (by have := size_step hr'; omega)]
    simp
theorem fold_list (l : List Trg) (w : ByteArray) : (l.foldl (fun a t => a ++ t.text) w).data.toList = w.data.toList ++ l.flatMap (fun t => t.text.data.toList) := by
  induction l generalizing w with
  | nil => simp
  | cons t l ih => rw [List.foldl_cons, ih, List.flatMap_cons, ByteArray.data_append, Array.toList_append, List.append_assoc]
/-- WHAT IS PRINTED IS READ AS IT WAS -/
theorem plan_back {p : Pln} (he : planE p = 0) (hf : ∀ t ∈ p.trigs, t.fits) (hs : p.text.size ≤ 2048) : readR p.text = (p, 0, 0) := by
  have hp := planE_short he
  obtain ⟨T, hT⟩ : ∃ T : ByteArray, T.data.toList = p.trigs.flatMap (fun t => t.text.data.toList) := ⟨⟨(p.trigs.flatMap (fun t => t.text.data.toList)).toArray⟩, List.toList_toArray⟩
  obtain ⟨r0, e0⟩ : ∃ r0 : ByteArray, r0 = Tide.rowB (((⟨#[112, 108, 97, 110]⟩ : ByteArray) ++ ⟨#[32]⟩) ++ p.name) [p.mn, p.mx, p.poll, p.cool] := ⟨_, rfl⟩
  obtain ⟨r1, e1⟩ : ∃ r1 : ByteArray, r1 = Tide.rowB wdRest [p.tol, p.back, p.after, p.shift] := ⟨_, rfl⟩
  obtain ⟨r2, e2⟩ : ∃ r2 : ByteArray, r2 = Tide.rowB wdUp [p.up.win, p.up.pods, p.up.pct, p.up.per] := ⟨_, rfl⟩
  obtain ⟨r3, e3⟩ : ∃ r3 : ByteArray, r3 = Tide.rowB wdDown [p.down.win, p.down.pods, p.down.pct, p.down.per] := ⟨_, rfl⟩
  have n10 : (10 : UInt8) ∉ p.name.data.toList := name_not hp.name (by decide)
  have n32 : (32 : UInt8) ∉ p.name.data.toList := name_not hp.name (by decide)
  have m0 : (10 : UInt8) ∉ r0.data.toList := by
    rw [e0]; refine Tide.row_not ?_ (by decide) (by decide) (by decide)
    simp only [ByteArray.data_append, Array.toList_append, List.mem_append]
    rintro ((q | q) | q)
    · exact absurd q (by decide)
    · exact absurd q (by decide)
    · exact n10 q
  have m1 : (10 : UInt8) ∉ r1.data.toList := by rw [e1]; exact Tide.row_not (by decide) (by decide) (by decide) (by decide)
  have m2 : (10 : UInt8) ∉ r2.data.toList := by rw [e2]; exact Tide.row_not (by decide) (by decide) (by decide) (by decide)
  have m3 : (10 : UInt8) ∉ r3.data.toList := by rw [e3]; exact Tide.row_not (by decide) (by decide) (by decide) (by decide)
  have w0 : Tide.piecesB 32 r0 = wdPlan :: p.name :: [p.mn, p.mx, p.poll, p.cool].map Tide.itoB := by rw [e0]; exact Tide.row_words2 _ (by decide) n32
  have w1 : Tide.piecesB 32 r1 = wdRest :: [p.tol, p.back, p.after, p.shift].map Tide.itoB := by rw [e1]; exact Tide.row_words _ (by decide)
  have w2 : Tide.piecesB 32 r2 = wdUp :: [p.up.win, p.up.pods, p.up.pct, p.up.per].map Tide.itoB := by rw [e2]; exact Tide.row_words _ (by decide)
  have w3 : Tide.piecesB 32 r3 = wdDown :: [p.down.win, p.down.pods, p.down.pct, p.down.per].map Tide.itoB := by rw [e3]; exact Tide.row_words _ (by decide)
  obtain ⟨t3, h3⟩ : ∃ t3 : ByteArray, t3.data.toList = r3.data.toList ++ 10 :: T.data.toList := ⟨⟨(r3.data.toList ++ 10 :: T.data.toList).toArray⟩, List.toList_toArray⟩
  obtain ⟨t2, h2⟩ : ∃ t2 : ByteArray, t2.data.toList = r2.data.toList ++ 10 :: t3.data.toList := ⟨⟨(r2.data.toList ++ 10 :: t3.data.toList).toArray⟩, List.toList_toArray⟩
  obtain ⟨t1, h1⟩ : ∃ t1 : ByteArray, t1.data.toList = r1.data.toList ++ 10 :: t2.data.toList := ⟨⟨(r1.data.toList ++ 10 :: t2.data.toList).toArray⟩, List.toList_toArray⟩
  have h0 : p.text.data.toList = r0.data.toList ++ 10 :: t1.data.toList := by
    unfold Pln.text
    rw [fold_list, h1, h2, h3, hT]
    unfold Pln.top Pln.row0 Pln.row1 Pln.row2 Pln.row3 Tide.lineB
    have ew : (⟨#[112, 108, 97, 110, 32]⟩ : ByteArray) = (⟨#[112, 108, 97, 110]⟩ : ByteArray) ++ ⟨#[32]⟩ := by decide
    rw [ew, ← e0]
    simp only [ByteArray.data_append, Array.toList_append, List.append_assoc]
    rw [e1, e2, e3]
    rfl
  have s0 := size_step h0; have s1 := size_step h1; have s2 := size_step h2; have s3 := size_step h3
  obtain ⟨f, hf4⟩ : ∃ f, p.text.size + 1 = f + 1 + 1 + 1 + 1 ∧ T.size < f := ⟨p.text.size + 1 - 4, by omega, by omega⟩
  have hgo : readGo (p.text.size + 1) 0 zeroP p.text = (some p, 0) := by
    rw [hf4.1]
    rw [read_step (p' := { zeroP with name := p.name, mn := p.mn, mx := p.mx, poll := p.poll, cool := p.cool }) h0 m0 w0 (by
      have hh : headOk (wdPlan :: p.name :: [p.mn, p.mx, p.poll, p.cool].map Tide.itoB) = true := by
        unfold headOk
        rw [show Tide.pieceAt (wdPlan :: p.name :: [p.mn, p.mx, p.poll, p.cool].map Tide.itoB) 1 = p.name from rfl, hp.name, decide_eq_true (show Tide.pieceAt (wdPlan :: p.name :: [p.mn, p.mx, p.poll, p.cool].map Tide.itoB) 0 = wdPlan from rfl), decide_eq_true (show (wdPlan :: p.name :: [p.mn, p.mx, p.poll, p.cool].map Tide.itoB).length = 6 from rfl)]
        exact words4 hp.i0
      have hv := v4 hp.i0
      show (if _ then some _ else none) = _
      rw [if_pos hh]
      show some ({ zeroP with name := p.name, mn := wV (Tide.itoB p.mn), mx := wV (Tide.itoB p.mx), poll := wV (Tide.itoB p.poll), cool := wV (Tide.itoB p.cool) } : Pln) = _
      rw [hv.1, hv.2.1, hv.2.2.1, hv.2.2.2])]
    rw [read_step (p' := { zeroP with name := p.name, mn := p.mn, mx := p.mx, poll := p.poll, cool := p.cool, tol := p.tol, back := p.back, after := p.after, shift := p.shift }) h1 m1 w1 (by
      have hv := v4 hp.i1
      show (if _ then some _ else none) = _
      rw [if_pos (line_row (i := 1) (p := p) hp.i1)]
      show some ({ zeroP with name := p.name, mn := p.mn, mx := p.mx, poll := p.poll, cool := p.cool, tol := wV (Tide.itoB p.tol), back := wV (Tide.itoB p.back), after := wV (Tide.itoB p.after), shift := wV (Tide.itoB p.shift) } : Pln) = _
      rw [hv.1, hv.2.1, hv.2.2.1, hv.2.2.2])]
    rw [read_step (p' := { zeroP with name := p.name, mn := p.mn, mx := p.mx, poll := p.poll, cool := p.cool, tol := p.tol, back := p.back, after := p.after, shift := p.shift, up := p.up }) h2 m2 w2 (by
      have hv := v4 hp.i2
      show (if _ then some _ else none) = _
      rw [if_pos (line_row (i := 2) (p := p) hp.i2)]
      show some ({ zeroP with name := p.name, mn := p.mn, mx := p.mx, poll := p.poll, cool := p.cool, tol := p.tol, back := p.back, after := p.after, shift := p.shift, up := ⟨wV (Tide.itoB p.up.win), wV (Tide.itoB p.up.pods), wV (Tide.itoB p.up.pct), wV (Tide.itoB p.up.per)⟩ } : Pln) = _
      rw [hv.1, hv.2.1, hv.2.2.1, hv.2.2.2])]
    rw [read_step (p' := { zeroP with name := p.name, mn := p.mn, mx := p.mx, poll := p.poll, cool := p.cool, tol := p.tol, back := p.back, after := p.after, shift := p.shift, up := p.up, down := p.down }) h3 m3 w3 (by
      have hv := v4 hp.i3
      show (if _ then some _ else none) = _
      rw [if_pos (line_row (i := 3) (p := p) hp.i3)]
      show some ({ zeroP with name := p.name, mn := p.mn, mx := p.mx, poll := p.poll, cool := p.cool, tol := p.tol, back := p.back, after := p.after, shift := p.shift, up := p.up, down := ⟨wV (Tide.itoB p.down.win), wV (Tide.itoB p.down.pods), wV (Tide.itoB p.down.pct), wV (Tide.itoB p.down.per)⟩ } : Pln) = _
      rw [hv.1, hv.2.1, hv.2.2.1, hv.2.2.2])]
    rw [trigs_read p.trigs f 4 _ T (fun t ht => ⟨hp.each t ht, hf t ht⟩) hT (Nat.le_refl _) hf4.2]
    rfl
  unfold readR
  rw [if_neg (by omega), hgo]
  show (if planE p = 0 then (p, 0, 0) else (zeroP, 0, planE p)) = _
  rw [if_pos he]
end Go.Proofs.YthelnkoohbnjpaaDoor


namespace Go.Proofs.YthelnkoohbnjpaaDoor
open Go.RowKit
set_option linter.unusedVariables false
theorem pb_set {w : World} {g : Nat} {t : TypeId} {old : Array Value} (h : Tide.At w g t old) (cs : Array Value) : Tide.At (w.setRow g cs) g t cs := setRow_heap w g old cs t (0, 0) h
theorem pb_row {B : Nat} {a w : World} (h : Below B a w) {g : Nat} (hg : B ≤ g) (cs : Array Value) : Below B a (w.setRow g cs) :=
  ⟨h.os, h.tape, h.output, by rw [setRow_size]; exact h.size, fun k hk => (setRow_other w g k cs (by omega)).trans (h.block k hk)⟩
theorem pb_load {P : Program} {ops : Array Oper} {rest : List Oper} {o : Oper} {a : Act} {w : World} {Q : Exit → Act → World → Prop} (hgd : Region.wanted o (yielded ops a.tmps) = true) (ty : TypeId) (x : Operand) (ho : o.op = .load ty x)
    (g : Nat) (hx : a.eval x = .pointer (some ⟨g, 0, none⟩)) (t : TypeId) (cs : Array Value) (fr : Nat × Nat) (d : TypeDesc) (hg : w.heap[g]? = some (.cells cs t fr))
    (hu : P.underlying ty = some d) (hd : (match d with | .struct _ | .array _ _ => true | _ => false) = true) (hi : (P.info? ty).map (·.size) = some cs.size)
    (h : wpList P ops Q rest (a.put o.dst (.agg cs)) w) : wpList P ops Q (o :: rest) a w := by
  unfold wpList
  rw [if_pos hgd]
  exact .inl (wp_load_row ty x ho g hx t cs fr d hg hu hd hi h)
def litP : Pln := ⟨⟨#[97]⟩, 0, 3, 1, 9, 0, 0, 0, 0, ⟨0, 0, 0, 0⟩, ⟨0, 0, 0, 0⟩, []⟩
theorem lit_built : Tryd.prog.built 42 [(0, .string ⟨#[97]⟩), (2, .int .i64 3), (3, .int .i64 1), (4, .int .i64 9)] = some (plnC litP (.slice none 0 0)) := by kernel_rfl
theorem lit_ok : planE litP = 0 := by decide +kernel
theorem ito_one {n : Nat} (h : n < 10) : Tide.itoB (n : Int) = ⟨#[UInt8.ofNat (48 + n)]⟩ := by
  apply Tide.ba_ext
  show Lib.itoa (n : Int) = _
  unfold Lib.itoa
  rw [if_neg (by omega), Int.toNat_natCast, Lib.decDigits_one h]
theorem lit_text : litP.text.toList = [112, 108, 97, 110, 32, 97, 32, 48, 32, 51, 32, 49, 32, 57, 10, 114, 101, 115, 116, 32, 48, 32, 48, 32, 48, 32, 48, 10, 117, 112, 32, 48, 32, 48, 32, 48, 32, 48, 10, 100, 111, 119, 110, 32, 48, 32, 48, 32, 48, 32, 48, 10] := by
  have i0 : Tide.itoB 0 = ⟨#[48]⟩ := ito_one (n := 0) (by decide)
  have i3 : Tide.itoB 3 = ⟨#[51]⟩ := ito_one (n := 3) (by decide)
  have i1 : Tide.itoB 1 = ⟨#[49]⟩ := ito_one (n := 1) (by decide)
  have i9 : Tide.itoB 9 = ⟨#[57]⟩ := ito_one (n := 9) (by decide)
  rw [ByteArray.toList_eq]
  show (((Tide.lineB ((⟨#[112, 108, 97, 110, 32]⟩ : ByteArray) ++ ⟨#[97]⟩) [0, 3, 1, 9] ++ Tide.lineB ⟨#[114, 101, 115, 116]⟩ [0, 0, 0, 0]) ++ Tide.lineB ⟨#[117, 112]⟩ [0, 0, 0, 0]) ++ Tide.lineB ⟨#[100, 111, 119, 110]⟩ [0, 0, 0, 0]).data.toList = _
  unfold Tide.lineB Tide.rowB
  simp only [List.foldl_cons, List.foldl_nil, i0, i1, i3, i9, ByteArray.data_append, Array.toList_append]
  rfl
theorem go_fits : ∀ (f i : Nat) (p : Pln) (rest : ByteArray) (q : Pln) (k : Nat), (∀ t ∈ p.trigs, t.fits) → readGo f i p rest = (some q, k) → ∀ t ∈ q.trigs, t.fits
  | 0, i, p, rest, q, k, _, h => by cases h
  | f + 1, i, p, rest, q, k, h0, h => by
    unfold readGo at h
    split at h
    · cases h; exact h0
    · split at h
      · cases h
      · split at h
        · cases h
        · rename_i p' hp
          exact go_fits f (i + 1) p' _ q k (lineN_fits h0 hp) h
/-- what a text tells: nothing, or a plan that is right -/
theorem readR_is (s : ByteArray) : ((readR s).2.2 = 0 ∧ planE (readR s).1 = 0 ∧ (∀ t ∈ (readR s).1.trigs, t.fits)) ∨ ((readR s).2.2 ≠ 0 ∧ (readR s).1 = zeroP) := by
  unfold readR
  split
  · right; exact ⟨by decide, rfl⟩
  · split
    · right; exact ⟨by show (3 : Int) ≠ 0; decide, rfl⟩
    · rename_i p k h
      split
      · rename_i he
        exact .inl ⟨rfl, he, go_fits _ _ _ _ _ _ (fun t ht => by cases ht) h⟩
      · rename_i he
        exact .inr ⟨he, rfl⟩
theorem ok_few {p : Pln} (h : planE p = 0) : p.name.size ≤ 16 ∧ p.trigs.length ≤ 5 := ⟨(planE_fine h).name, (planE_fine h).few⟩
theorem printV (p : Pln) (A : Option Addr) (cap : Nat) (w : World) (ht : Tide.ListIn w 17 Trg.enc (.slice A p.trigs.length cap) p.trigs) (hf : ∀ t ∈ p.trigs, t.fits) (hn : p.name.size ≤ 9223372036854775807) (hl : p.trigs.length ≤ 9223372036854775807) (hT : PowTab w) :
    Calls Tryd.prog 19 #[.agg (plnC p (.slice A p.trigs.length cap))] w (PrnPost p w) := by
  obtain ⟨name, mn, mx, poll, cool, tol, back, after, shift, ⟨u0, u1, u2, u3⟩, ⟨d0, d1, d2, d3⟩, ts⟩ := p
  exact planPrint name mn mx poll cool tol back after shift u0 u1 u2 u3 d0 d1 d2 d3 A cap ts w ht hf hn hl hT
theorem printOk (p : Pln) (A : Option Addr) (cap : Nat) (w : World) (he : planE p = 0) (ht : Tide.ListIn w 17 Trg.enc (.slice A p.trigs.length cap) p.trigs) (hf : ∀ t ∈ p.trigs, t.fits) (hT : PowTab w) :
    Calls Tryd.prog 19 #[.agg (plnC p (.slice A p.trigs.length cap))] w fun e w' => e = .returned (.tuple #[.string p.text, .int .i64 0]) ∧ Below w.heap.size w w' := by
  have := ok_few he
  refine (printV p A cap w ht hf (by omega) (by omega) hT).mono ?_
  rintro e w' ⟨h, hb⟩
  rw [he, if_pos rfl] at h
  exact ⟨h, hb⟩
/-- a plan in its block, and what the library needs -/
structure PbS (w0 W : World) (m : Int) (g : Nat) (p : Pln) (A : Option Addr) (cap : Nat) : Prop where
  at_ : Tide.At W g 42 (plnC p (.slice A p.trigs.length cap))
  row : Tide.ListIn W 17 Trg.enc (.slice A p.trigs.length cap) p.trigs
  tab : PowTab W
  mx : W.cell? ⟨0, 0, none⟩ = some (.int .i64 m)
  mb : 0 < w0.heap.size
  below : Below w0.heap.size w0 W
theorem PbS.next {w0 W W' : World} {m : Int} {g : Nat} {p : Pln} {A : Option Addr} {cap : Nat} (h : PbS w0 W m g p A cap) (hb : Below W.heap.size W W') : PbS w0 W' m g p A cap :=
  ⟨h.at_.below hb h.at_.inside, h.row.below hb (Nat.le_refl _), h.tab.below hb, (hb.cell (p := ⟨0, 0, none⟩) (Nat.lt_of_lt_of_le h.mb h.below.size)).trans h.mx, h.mb, h.below.trans (hb.mono h.below.size)⟩
/-- a plan that was read, laid into a new block -/
theorem made_row (w : World) (p : Pln) (v : Value) : Tide.At ((w.alloc (.cells #[.string ⟨#[]⟩, .int .i64 0, .int .i64 0, .int .i64 0, .int .i64 0, .int .i64 0, .int .i64 0, .int .i64 0, .int .i64 0, .int .i64 0, .int .i64 0, .int .i64 0, .int .i64 0, .int .i64 0, .int .i64 0, .int .i64 0, .int .i64 0, .slice none 0 0] 42)).setRow w.heap.size (plnC p v)) w.heap.size 42 (plnC p v) ∧ Below w.heap.size w ((w.alloc (.cells #[.string ⟨#[]⟩, .int .i64 0, .int .i64 0, .int .i64 0, .int .i64 0, .int .i64 0, .int .i64 0, .int .i64 0, .int .i64 0, .int .i64 0, .int .i64 0, .int .i64 0, .int .i64 0, .int .i64 0, .int .i64 0, .int .i64 0, .int .i64 0, .slice none 0 0] 42)).setRow w.heap.size (plnC p v)) :=
  ⟨pb_set (Tide.At.made w 42 (plnC zeroP (.slice none 0 0))) _, pb_row ((Below.refl w.heap.size w).alloc (Nat.le_refl _) _) (Nat.le_refl _) _⟩
theorem parseForm (s : ByteArray) (m : Int) (w : World) (R : Pln × Nat × Int) (hR : readR s = R) (hm : w.cell? ⟨0, 0, none⟩ = some (.int .i64 m)) (hs : s.size ≤ 9223372036854775807) :
    Calls Tryd.prog 21 #[.string s] w fun e w' => ∃ (A : Option Addr) (cap : Nat), e = .returned (.tuple #[.agg (plnC R.1 (.slice A R.1.trigs.length cap)), .int .i64 (R.2.1 : Int), .int .i64 R.2.2]) ∧ Tide.ListIn w' 17 Trg.enc (.slice A R.1.trigs.length cap) R.1.trigs ∧ Below w.heap.size w w' := by
  subst hR
  refine (planParse s m w hm hs).mono ?_
  rintro e w' ⟨v, he, hl, hb⟩
  obtain ⟨A, cap, rfl, hA⟩ := id hl
  exact ⟨A, cap, he, hl, hb⟩
theorem text_max {p : Pln} (h : planE p = 0) : p.text.size ≤ 30000 := by rw [← Pln.up2_all]; exact Pln.up2_size (planE_fine h) _
set_option maxRecDepth 100000 in
set_option maxHeartbeats 12800000 in
theorem planBack_walk (p : Pln) (A : Option Addr) (cap : Nat) (s : ByteArray) (m : Int) (w : World) (ht : Tide.ListIn w 17 Trg.enc (.slice A p.trigs.length cap) p.trigs) (hf : ∀ t ∈ p.trigs, t.fits) (hn : p.name.size ≤ 9223372036854775807) (hl : p.trigs.length ≤ 9223372036854775807) (hT : PowTab w) (hm : w.cell? ⟨0, 0, none⟩ = some (.int .i64 m)) (hs : s.size ≤ 9223372036854775807) :
    Calls Tryd.prog 8 #[.agg (plnC p (.slice A p.trigs.length cap)), .string s] w fun e w' => e = .returned (.bool true) ∧ Below w.heap.size w w' := by
  have hml := World.block_lt_of_cell? _ _ hm
  have hnew := (Below.refl w.heap.size w).alloc (Nat.le_refl _) (.cells (plnC p (.slice A p.trigs.length cap)) 42)
  have HS := Lib.hid (show PbS w (w.alloc (.cells (plnC p (.slice A p.trigs.length cap)) 42)) m w.heap.size p A cap from
    ⟨Tide.At.made _ _ _, ht.below hnew (Nat.le_refl _), hT.below hnew, (hnew.cell (p := ⟨0, 0, none⟩) hml).trans hm, hml, hnew⟩)
  have HPr := Lib.hid (fun (W : World) (h : PbS w W m w.heap.size p A cap) => printV p A cap W h.row hf hn hl h.tab)
  have HSame := Lib.hid (fun (W : World) (A1 A2 : Option Addr) (c1 c2 : Nat) h1 h2 => refSame p A1 A2 c1 c2 W h1 h2 hl)
  have HFi := Lib.hid hf
  have HSz := Lib.hid hs
  clear ht hf hn hl hT hm hs hnew hml
  have HL1 := Lib.hid lit_built
  have HL2 := Lib.hid (fun (W : World) (hT : PowTab W) => printOk litP none 0 W lit_ok ⟨none, 0, rfl, fun h => absurd h (by decide)⟩ (fun t ht => by cases ht) hT)
  have e0 : (litP.text.toList == [112, 108, 97, 110, 32, 97, 32, 48, 32, 51, 32, 49, 32, 57, 10, 114, 101, 115, 116, 32, 48, 32, 48, 32, 48, 32, 48, 10, 117, 112, 32, 48, 32, 48, 32, 48, 32, 48, 10, 100, 111, 119, 110, 32, 48, 32, 48, 32, 48, 32, 48, 10]) = true := by rw [lit_text]; simp
  go_enter Tryd.func8, Tryd.ntmps8
  go_upto_region 1 with fail
  generalize w.alloc (.cells (plnC p (.slice A p.trigs.length cap)) 42) = W1 at HS ⊢
  obtain ⟨g, hg⟩ : ∃ g, w.heap.size = g := ⟨_, rfl⟩
  have HG := Lib.hid hg
  rw [hg] at HS HPr ⊢
  clear hg
  generalize litP.text = T0 at e0 HL2
  go_wp2_with (refine build_law rfl 42 _ rfl [(0, .string ⟨#[97]⟩), (2, .int .i64 3), (3, .int .i64 1), (4, .int .i64 9)] rfl _ HL1.out ?_)
  refine (HL2.out W1 HS.out.tab).mono ?_
  rintro e w1 ⟨rfl, hb1⟩
  have HS1 := Lib.hid (HS.out.next hb1)
  clear HS HL1 HL2 hb1
  go_upto_region 4 with fail
  go_wp2_with (refine wpList_load_row rfl 42 (.tmp 2) rfl g rfl 42 _ (0, 0) _ HS1.out.at_ Tryd.underlying42 rfl (by kernel_rfl) ?_)
  refine (HPr.out w1 HS1.out).mono ?_
  rintro e w2 ⟨rfl, hb2⟩
  have HS2 := Lib.hid (HS1.out.next hb2)
  clear HS1 HPr hb2
  obtain ⟨T, hT⟩ : ∃ T, (if planE p = 0 then p.text else ⟨#[]⟩ : ByteArray) = T := ⟨_, rfl⟩
  obtain ⟨E, hE⟩ : ∃ E, planE p = E := ⟨_, rfl⟩
  have HT := Lib.hid hT
  have HE := Lib.hid hE
  rw [hT, hE]
  clear hT hE
  go_upto_if 36 with (fail)
  go_cut [2] (fun y wx => y = .pointer (some ⟨g, 0, none⟩) ∧ Hid (PbS w wx m g p A cap))
  case first =>
    by_cases he : E = 0
    · subst he
      have HTx := Lib.hid (show T = p.text by rw [← HT.out, HE.out, if_pos rfl])
      have hsz : T.size ≤ 30000 := by rw [HTx.out]; exact text_max HE.out
      by_cases hlen : 2048 < T.size
      · have HP := Lib.hid (parseForm T m w2 (zeroP, 0, 2) (read_long hlen) HS2.out.mx (by omega))
        have hl2 : (2048 : Int) < (T.size : Int) := by omega
        have HF := Lib.hid (fun (W : World) (hb : Below w2.heap.size w2 W) => HS2.out.below.trans (hb.mono HS2.out.below.size))
        clear hlen
        go_wp2_with fail
        refine HP.out.mono ?_
        rintro e w3 ⟨A3, c3, rfl, hl3, hb3⟩
        have HB3 := Lib.hid hb3
        clear hb3 hl3 HP
        have HZ := Lib.hid (show Tide.At (w3.alloc (.cells #[.string ⟨#[]⟩, .int .i64 0, .int .i64 0, .int .i64 0, .int .i64 0, .int .i64 0, .int .i64 0, .int .i64 0, .int .i64 0, .int .i64 0, .int .i64 0, .int .i64 0, .int .i64 0, .int .i64 0, .int .i64 0, .int .i64 0, .int .i64 0, .slice none 0 0] 42)) w3.heap.size 42 (plnC zeroP (.slice none 0 0)) from Tide.At.made w3 42 (plnC zeroP (.slice none 0 0)))
        obtain ⟨hat, hbn⟩ := made_row w3 zeroP (.slice A3 zeroP.trigs.length c3)
        go_upto_region 7 with (refine wpList_store_row rfl 42 (.tmp 9) (.tmp 40) rfl w3.heap.size (plnC zeroP (.slice A3 zeroP.trigs.length c3)) rfl rfl 42 (plnC zeroP (.slice none 0 0)) HZ.out (by kernel_rfl) rfl (by kernel_rfl) ?_)
        have HAx := Lib.hid hat
        have HBx := Lib.hid hbn
        clear HZ hat hbn
        generalize (w3.alloc (.cells #[.string ⟨#[]⟩, .int .i64 0, .int .i64 0, .int .i64 0, .int .i64 0, .int .i64 0, .int .i64 0, .int .i64 0, .int .i64 0, .int .i64 0, .int .i64 0, .int .i64 0, .int .i64 0, .int .i64 0, .int .i64 0, .int .i64 0, .int .i64 0, .slice none 0 0] 42)).setRow w3.heap.size (plnC zeroP (.slice A3 zeroP.trigs.length c3)) = w4 at HAx HBx ⊢
        have HB4 := Lib.hid (HF.out _ (HB3.out.trans (HBx.out.mono HB3.out.size)))
        clear HB3 HBx HF
        go_wp2_with fail
        go_ret
        exact ⟨rfl, HB4.out⟩
      · have HP := Lib.hid (parseForm T m w2 (p, 0, 0) (by rw [HTx.out]; exact plan_back HE.out HFi.out (by rw [← HTx.out]; omega)) HS2.out.mx (by omega))
        have hl2 : (T.size : Int) ≤ 2048 := by omega
        clear hlen
        go_wp2_with fail
        refine HP.out.mono ?_
        rintro e w3 ⟨A3, c3, rfl, hl3, hb3⟩
        have HB3 := Lib.hid hb3
        have HL3 := Lib.hid hl3
        clear hb3 hl3 HP
        have HZ := Lib.hid (show Tide.At (w3.alloc (.cells #[.string ⟨#[]⟩, .int .i64 0, .int .i64 0, .int .i64 0, .int .i64 0, .int .i64 0, .int .i64 0, .int .i64 0, .int .i64 0, .int .i64 0, .int .i64 0, .int .i64 0, .int .i64 0, .int .i64 0, .int .i64 0, .int .i64 0, .int .i64 0, .slice none 0 0] 42)) w3.heap.size 42 (plnC zeroP (.slice none 0 0)) from Tide.At.made w3 42 (plnC zeroP (.slice none 0 0)))
        obtain ⟨hat, hbn⟩ := made_row w3 p (.slice A3 p.trigs.length c3)
        go_upto_region 7 with (refine wpList_store_row rfl 42 (.tmp 9) (.tmp 40) rfl w3.heap.size (plnC p (.slice A3 p.trigs.length c3)) rfl rfl 42 (plnC zeroP (.slice none 0 0)) HZ.out (by kernel_rfl) rfl (by kernel_rfl) ?_)
        have HAx := Lib.hid hat
        have HBx := Lib.hid hbn
        clear HZ hat hbn
        generalize (w3.alloc (.cells #[.string ⟨#[]⟩, .int .i64 0, .int .i64 0, .int .i64 0, .int .i64 0, .int .i64 0, .int .i64 0, .int .i64 0, .int .i64 0, .int .i64 0, .int .i64 0, .int .i64 0, .int .i64 0, .int .i64 0, .int .i64 0, .int .i64 0, .int .i64 0, .slice none 0 0] 42)).setRow w3.heap.size (plnC p (.slice A3 p.trigs.length c3)) = w4 at HAx HBx ⊢
        have HS4 := Lib.hid (HS2.out.next (HB3.out.trans (HBx.out.mono HB3.out.size)))
        have HL4 := Lib.hid (HL3.out.below HBx.out (Nat.le_refl _))
        have HSm := Lib.hid (HSame.out w4 A3 A c3 cap HL4.out HS4.out.row)
        generalize w3.heap.size = g9 at HAx ⊢
        clear HB3 HBx HL3 HL4 HSame
        go_wp2_with (first | refine pb_load (by rfl) 42 (.tmp 9) rfl g9 rfl 42 _ (0, 0) _ HAx.out Tryd.underlying42 rfl (by kernel_rfl) ?_ | refine pb_load (by rfl) 42 (.tmp 2) rfl g rfl 42 _ (0, 0) _ HS4.out.at_ Tryd.underlying42 rfl (by kernel_rfl) ?_)
        refine HSm.out.mono ?_
        rintro e w5 ⟨rfl, hb5⟩
        have HS5 := Lib.hid (HS4.out.next hb5)
        clear hb5 HS4 HAx HSm
        go_wp2_with fail
        go_meet
        exact ⟨rfl, HS5⟩
    · have he2 : (E == 0) = false := by simpa using he
      go_wp2_with fail
      go_meet
      exact ⟨rfl, HS2⟩
  case rest =>
    obtain ⟨rfl, HS3⟩ := hcut
    clear HS2 HT HE HSame
    rename World => w3
    obtain ⟨R, hR⟩ : ∃ R, readR s = R := ⟨_, rfl⟩
    have HI := Lib.hid (show (R.2.2 = 0 ∧ planE R.1 = 0 ∧ (∀ t ∈ R.1.trigs, t.fits)) ∨ (R.2.2 ≠ 0 ∧ R.1 = zeroP) by rw [← hR]; exact readR_is s)
    have HP := Lib.hid (parseForm s m w3 R hR HS3.out.mx HSz.out)
    clear hR
    obtain ⟨q, k, x⟩ := R
    go_upto_region 13 with fail
    go_wp2_with fail
    refine HP.out.mono ?_
    rintro e w4 ⟨A4, c4, rfl, hl4, hb4⟩
    have HL4 := Lib.hid hl4
    have HB4 := Lib.hid hb4
    clear hl4 hb4 HP
    have HZ := Lib.hid (show Tide.At (w4.alloc (.cells #[.string ⟨#[]⟩, .int .i64 0, .int .i64 0, .int .i64 0, .int .i64 0, .int .i64 0, .int .i64 0, .int .i64 0, .int .i64 0, .int .i64 0, .int .i64 0, .int .i64 0, .int .i64 0, .int .i64 0, .int .i64 0, .int .i64 0, .int .i64 0, .slice none 0 0] 42)) w4.heap.size 42 (plnC zeroP (.slice none 0 0)) from Tide.At.made w4 42 (plnC zeroP (.slice none 0 0)))
    obtain ⟨hat, hbn⟩ := made_row w4 q (.slice A4 q.trigs.length c4)
    go_upto_region 14 with (refine wpList_store_row rfl 42 (.tmp 12) (.tmp 65) rfl w4.heap.size (plnC q (.slice A4 q.trigs.length c4)) rfl rfl 42 (plnC zeroP (.slice none 0 0)) HZ.out (by kernel_rfl) rfl (by kernel_rfl) ?_)
    have HAx := Lib.hid hat
    have HBx := Lib.hid hbn
    clear HZ hat hbn
    generalize (w4.alloc (.cells #[.string ⟨#[]⟩, .int .i64 0, .int .i64 0, .int .i64 0, .int .i64 0, .int .i64 0, .int .i64 0, .int .i64 0, .int .i64 0, .int .i64 0, .int .i64 0, .int .i64 0, .int .i64 0, .int .i64 0, .int .i64 0, .int .i64 0, .int .i64 0, .slice none 0 0] 42)).setRow w4.heap.size (plnC q (.slice A4 q.trigs.length c4)) = w6 at HAx HBx ⊢
    have HS6 := Lib.hid (HS3.out.next (HB4.out.trans (HBx.out.mono HB4.out.size)))
    have HL6 := Lib.hid (HL4.out.below HBx.out (Nat.le_refl _))
    generalize w4.heap.size = g12 at HAx ⊢
    clear HB4 HBx HL4 HS3
    rcases HI.out with ⟨h0, hq, hqf⟩ | ⟨h0, hq⟩
    · have h0' : x = 0 := h0
      subst h0'
      have HQ := Lib.hid (show planE q = 0 from hq)
      have HQf := Lib.hid (show ∀ t ∈ q.trigs, t.fits from hqf)
      have HPr := Lib.hid (printOk q A4 c4 w6 HQ.out HL6.out HQf.out HS6.out.tab)
      have hqs : q.text.size ≤ 30000 := text_max HQ.out
      have hqn := (ok_few HQ.out).2
      clear h0 hq hqf HI
      go_wp2_with (refine wpList_load_row rfl 42 (.tmp 12) rfl g12 rfl 42 _ (0, 0) _ HAx.out Tryd.underlying42 rfl (by kernel_rfl) ?_)
      refine HPr.out.mono ?_
      rintro e w7 ⟨rfl, hb7⟩
      have HS7 := Lib.hid (HS6.out.next hb7)
      have HA7 := Lib.hid (HAx.out.below hb7 HAx.out.inside)
      have HL7 := Lib.hid (HL6.out.below hb7 (Nat.le_refl _))
      clear hb7 HS6 HAx HL6 HPr
      by_cases hlen : 2048 < q.text.size
      · have HP := Lib.hid (parseForm q.text m w7 (zeroP, 0, 2) (read_long hlen) HS7.out.mx (by omega))
        clear hlen hqs
        generalize q.text = T2 at HP ⊢
        go_wp2_with fail
        refine HP.out.mono ?_
        rintro e w8 ⟨A8, c8, rfl, hl8, hb8⟩
        have HB8 := Lib.hid hb8
        clear hb8 hl8 HP
        have HZ := Lib.hid (show Tide.At (w8.alloc (.cells #[.string ⟨#[]⟩, .int .i64 0, .int .i64 0, .int .i64 0, .int .i64 0, .int .i64 0, .int .i64 0, .int .i64 0, .int .i64 0, .int .i64 0, .int .i64 0, .int .i64 0, .int .i64 0, .int .i64 0, .int .i64 0, .int .i64 0, .int .i64 0, .slice none 0 0] 42)) w8.heap.size 42 (plnC zeroP (.slice none 0 0)) from Tide.At.made w8 42 (plnC zeroP (.slice none 0 0)))
        obtain ⟨hat, hbn⟩ := made_row w8 zeroP (.slice A8 zeroP.trigs.length c8)
        go_upto_region 18 with (refine wpList_store_row rfl 42 (.tmp 16) (.tmp 85) rfl w8.heap.size (plnC zeroP (.slice A8 zeroP.trigs.length c8)) rfl rfl 42 (plnC zeroP (.slice none 0 0)) HZ.out (by kernel_rfl) rfl (by kernel_rfl) ?_)
        have HAx := Lib.hid hat
        have HBx := Lib.hid hbn
        clear HZ hat hbn
        generalize (w8.alloc (.cells #[.string ⟨#[]⟩, .int .i64 0, .int .i64 0, .int .i64 0, .int .i64 0, .int .i64 0, .int .i64 0, .int .i64 0, .int .i64 0, .int .i64 0, .int .i64 0, .int .i64 0, .int .i64 0, .int .i64 0, .int .i64 0, .int .i64 0, .int .i64 0, .slice none 0 0] 42)).setRow w8.heap.size (plnC zeroP (.slice A8 zeroP.trigs.length c8)) = w9 at HAx HBx ⊢
        have HB9 := Lib.hid (HS7.out.below.trans ((HB8.out.trans (HBx.out.mono HB8.out.size)).mono HS7.out.below.size))
        clear HB8 HBx
        go_wp2_with fail
        go_ret
        exact ⟨rfl, HB9.out⟩
      · have HP := Lib.hid (parseForm q.text m w7 (q, 0, 0) (plan_back HQ.out HQf.out (by omega)) HS7.out.mx (by omega))
        clear hlen hqs
        generalize q.text = T2 at HP ⊢
        go_wp2_with fail
        refine HP.out.mono ?_
        rintro e w8 ⟨A8, c8, rfl, hl8, hb8⟩
        have HB8 := Lib.hid hb8
        have HL8 := Lib.hid hl8
        clear hb8 hl8 HP
        have HZ := Lib.hid (show Tide.At (w8.alloc (.cells #[.string ⟨#[]⟩, .int .i64 0, .int .i64 0, .int .i64 0, .int .i64 0, .int .i64 0, .int .i64 0, .int .i64 0, .int .i64 0, .int .i64 0, .int .i64 0, .int .i64 0, .int .i64 0, .int .i64 0, .int .i64 0, .int .i64 0, .int .i64 0, .slice none 0 0] 42)) w8.heap.size 42 (plnC zeroP (.slice none 0 0)) from Tide.At.made w8 42 (plnC zeroP (.slice none 0 0)))
        obtain ⟨hat, hbn⟩ := made_row w8 q (.slice A8 q.trigs.length c8)
        go_upto_region 18 with (refine wpList_store_row rfl 42 (.tmp 16) (.tmp 85) rfl w8.heap.size (plnC q (.slice A8 q.trigs.length c8)) rfl rfl 42 (plnC zeroP (.slice none 0 0)) HZ.out (by kernel_rfl) rfl (by kernel_rfl) ?_)
        have HAx := Lib.hid hat
        have HBx := Lib.hid hbn
        clear HZ hat hbn
        generalize (w8.alloc (.cells #[.string ⟨#[]⟩, .int .i64 0, .int .i64 0, .int .i64 0, .int .i64 0, .int .i64 0, .int .i64 0, .int .i64 0, .int .i64 0, .int .i64 0, .int .i64 0, .int .i64 0, .int .i64 0, .int .i64 0, .int .i64 0, .int .i64 0, .int .i64 0, .slice none 0 0] 42)).setRow w8.heap.size (plnC q (.slice A8 q.trigs.length c8)) = w9 at HAx HBx ⊢
        have hb79 := HB8.out.trans (HBx.out.mono HB8.out.size)
        have HS9 := Lib.hid (HS7.out.next hb79)
        have HA9 := Lib.hid (HA7.out.below hb79 HA7.out.inside)
        have HSm := Lib.hid (refSame q A4 A8 c4 c8 w9 (HL7.out.below hb79 (Nat.le_refl _)) (HL8.out.below HBx.out (Nat.le_refl _)) (by omega))
        generalize w8.heap.size = g16 at HAx ⊢
        clear HB8 HBx HL8 HL7 HA7 HS7 hb79
        go_wp2_with (first | refine pb_load (by rfl) 42 (.tmp 12) rfl g12 rfl 42 _ (0, 0) _ HA9.out Tryd.underlying42 rfl (by kernel_rfl) ?_ | refine pb_load (by rfl) 42 (.tmp 16) rfl g16 rfl 42 _ (0, 0) _ HAx.out Tryd.underlying42 rfl (by kernel_rfl) ?_)
        refine HSm.out.mono ?_
        rintro e w10 ⟨rfl, hb10⟩
        have HB10 := Lib.hid (HS9.out.below.trans (hb10.mono HS9.out.below.size))
        clear hb10 HSm
        go_wp2_with fail
        go_ret
        exact ⟨rfl, HB10.out⟩
    · have hq' : q = zeroP := hq
      subst hq'
      have h1 : (x != 0) = true := by have h0' : x ≠ 0 := h0; simpa using h0'
      have c0 : w6.cell? ⟨g12, 0, none⟩ = some (.string ⟨#[]⟩) := HAx.out.here rfl
      have c1 : ((⟨#[]⟩ : ByteArray).toList == []) = true := by rw [ByteArray.toList_eq]; rfl
      have c2 : (0 : Int) ≤ (k : Int) := by omega
      clear h0 hq HI
      go_wp2_with fail
      go_ret
      exact ⟨rfl, HS6.out.below⟩
end Go.Proofs.YthelnkoohbnjpaaDoor
