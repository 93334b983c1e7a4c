/- What is printed is read as it was: the fields of a cron, plain. -/
import Derived.Test.YthelnkoohbnjpaaDoorTxtP
import Derived.Test.YthelnkoohbnjpaaDoorTxtF
set_option linter.unusedVariables false
set_option linter.unusedSimpArgs false
namespace Tide
open Go
set_option linter.unusedVariables false
theorem pieces_app {c : UInt8} : ∀ {x : List UInt8} (l : List UInt8), c ∉ x → pieces c (x ++ c :: l) = x :: pieces c l
  | [], l, _ => pieces_eq c l
  | b :: x, l, h => by
    rw [List.mem_cons, not_or] at h
    rw [List.cons_append, pieces_ne (fun e => h.1 e.symm) (pieces_app l h.2)]
theorem pieces_tail {c : UInt8} : ∀ {xs : List (List UInt8)} {x : List UInt8}, c ∉ x → (∀ y ∈ xs, c ∉ y) → pieces c (x ++ Lib.joinTail [c] xs) = x :: xs
  | [], x, h, _ => by
    show pieces c (x ++ []) = _
    rw [List.append_nil, pieces_one h]
  | y :: xs, x, h, hs => by
    have ih := pieces_tail (xs := xs) (x := y) (hs y (by simp)) (fun z hz => hs z (List.mem_cons_of_mem _ hz))
    have e : Lib.joinTail [c] (y :: xs) = c :: (y ++ Lib.joinTail [c] xs) := by
      unfold Lib.joinTail
      simp
    rw [e, pieces_app _ h, ih]
theorem piecesB_join {c : UInt8} {l : List ByteArray} (hl : l ≠ []) (h : ∀ x ∈ l, c ∉ x.data.toList) : piecesB c (joinB c l) = l := by
  symm
  apply pieces_isB
  cases l with
  | nil => exact absurd rfl hl
  | cons x l =>
    show _ = pieces c (Lib.join (x.data.toList :: l.map (·.data.toList)) [c])
    rw [Lib.join_cons, pieces_tail (h x (by simp)) (fun y hy => by
      obtain ⟨z, hz, rfl⟩ := List.mem_map.1 hy
      exact h z (List.mem_cons_of_mem _ hz))]
    rfl
theorem cutB_none {c : UInt8} : ∀ {l : List UInt8}, c ∉ l → cutB c l = (l, [], false)
  | [], _ => rfl
  | b :: l, h => by
    rw [List.mem_cons, not_or] at h
    rw [cutB_ne (fun e => h.1 e.symm), cutB_none h.2]
theorem cutB_app {c : UInt8} : ∀ {x : List UInt8} (l : List UInt8), c ∉ x → cutB c (x ++ c :: l) = (x, l, true)
  | [], l, _ => cutB_eq c l
  | b :: x, l, h => by
    rw [List.mem_cons, not_or] at h
    rw [List.cons_append, cutB_ne (fun e => h.1 e.symm), cutB_app l h.2]
theorem digs_two : ∀ n < 100, ∀ b ∈ (if n < 10 then [UInt8.ofNat (48 + n)] else [UInt8.ofNat (48 + n / 10), UInt8.ofNat (48 + n % 10)]), digB b = true := by decide +kernel
theorem digs_val : ∀ n < 100, numL 2 (if n < 10 then [UInt8.ofNat (48 + n)] else [UInt8.ofNat (48 + n / 10), UInt8.ofNat (48 + n % 10)]) = (n : Int) := by decide +kernel
theorem decB_list {n : Nat} (h : n < 100) : (decB n).data.toList = if n < 10 then [UInt8.ofNat (48 + n)] else [UInt8.ofNat (48 + n / 10), UInt8.ofNat (48 + n % 10)] := by
  show Lib.decDigits n = _
  split
  · rename_i h1; exact Lib.decDigits_one h1
  · rename_i h1; exact Lib.decDigits_two h1 h
theorem decB_dig {n : Nat} (h : n < 100) : ∀ b ∈ (decB n).data.toList, digB b = true := by rw [decB_list h]; exact digs_two n h
theorem decB_val {n : Nat} (h : n < 100) : numL 2 (decB n).data.toList = (n : Int) := by rw [decB_list h]; exact digs_val n h
theorem decB_not {n : Nat} (h : n < 100) {c : UInt8} (hc : digB c = false) : c ∉ (decB n).data.toList := fun hm => by rw [decB_dig h c hm] at hc; cases hc
theorem runTxt_list {a b : Nat} : (runTxt a b).data.toList = if b = a then (decB a).data.toList else (decB a).data.toList ++ 45 :: (decB b).data.toList := by
  unfold runTxt
  split
  · rfl
  · rw [ByteArray.data_append, ByteArray.data_append, Array.toList_append, Array.toList_append]
    simp
theorem runTxt_not {a b : Nat} (ha : a < 100) (hb : b < 100) {c : UInt8} (hc : digB c = false) (h45 : c ≠ 45) : c ∉ (runTxt a b).data.toList := by
  rw [runTxt_list]
  split
  · exact decB_not ha hc
  · rw [List.mem_append, List.mem_cons]
    rintro (h | h | h)
    · exact decB_not ha hc h
    · exact h45 h
    · exact decB_not hb hc h
theorem runTxt_item {a b lo hi : Nat} (ha : lo ≤ a) (hab : a ≤ b) (hb : b ≤ hi) (hh : hi < 100) : itemN (lo : Int) (hi : Int) (runTxt a b) = ticksF 100 (a : Int) (b : Int) 1 := by
  have h47 : (47 : UInt8) ∉ (runTxt a b).data.toList := runTxt_not (by omega) (by omega) (by decide) (by decide)
  have hc : cutB 47 (runTxt a b).data.toList = ((runTxt a b).data.toList, [], false) := cutB_none h47
  have eX : cutX 47 (runTxt a b) = runTxt a b := ba_ext (by unfold cutX; rw [hc])
  have eZ : cutZ 47 (runTxt a b) = false := by unfold cutZ; rw [hc]
  have hns : runTxt a b ≠ star := by
    intro e
    have : (42 : UInt8) ∈ (runTxt a b).data.toList := by rw [e]; simp [star]
    exact runTxt_not (by omega) (by omega) (by decide) (by decide) this
  have hcut : cutB 45 (runTxt a b).data.toList = if b = a then ((decB a).data.toList, [], false) else ((decB a).data.toList, (decB b).data.toList, true) := by
    rw [runTxt_list]
    split
    · exact cutB_none (decB_not (by omega) (by decide))
    · exact cutB_app _ (decB_not (by omega) (by decide))
  have e45 : cutX 45 (runTxt a b) = decB a := ba_ext (by unfold cutX; rw [hcut]; split <;> rfl)
  rw [itemN_else (lo := (a : Int)) (hi := (b : Int)) (ev := 1)]
  · exact spread_some (by omega) (by omega) (by omega)
  · unfold itBad; rw [eZ]; simp
  · unfold itLo; rw [eX, if_neg hns, e45, decB_val (by omega)]
  · unfold itHi
    rw [eX, if_neg hns, e45]
    by_cases h : b = a
    · have : cutZ 45 (runTxt a b) = false := by unfold cutZ; rw [hcut, if_pos h]
      rw [this, if_neg (by simp), decB_val (by omega), h]
    · have h1 : cutZ 45 (runTxt a b) = true := by unfold cutZ; rw [hcut, if_neg h]
      have h2 : cutY 45 (runTxt a b) = decB b := ba_ext (by unfold cutY; rw [hcut, if_neg h])
      rw [h1, if_pos rfl, h2, decB_val (by omega)]
  · unfold itEv; rw [eZ]; rfl
theorem ticks_mem : ∀ (f : Nat) (a b : Nat), b + 1 - a ≤ f → ∀ n : Nat, n ∈ ticksF f (a : Int) (b : Int) 1 ↔ a ≤ n ∧ n ≤ b
  | 0, a, b, h, n => by
    show n ∈ [] ↔ _
    simp; omega
  | f + 1, a, b, h, n => by
    show n ∈ (if (a : Int) ≤ (b : Int) then ((a : Int)).toNat :: ticksF f ((a : Int) + 1) (b : Int) 1 else []) ↔ _
    split
    · have ih := ticks_mem f (a + 1) b (by omega) n
      rw [List.mem_cons, show ((a : Int) + 1) = ((a + 1 : Nat) : Int) by omega, ih]
      omega
    · simp; omega
theorem maskN_bit (ns : List Nat) (n : Nat) : (maskN ns).testBit n = decide (n ∈ ns) := by
  induction ns with
  | nil => show (0 : Nat).testBit n = _; simp
  | cons m ns ih =>
    rw [show maskN (m :: ns) = ns.foldl (fun m n => m ||| 2 ^ n) (0 ||| 2 ^ m) from rfl, fold_or, Nat.zero_or, Nat.testBit_or, ih, Nat.testBit_two_pow]
    by_cases h : m = n
    · subst h; simp
    · rw [decide_eq_false h]
      rw [Bool.false_or, decide_eq_decide, List.mem_cons]
      constructor
      · exact .inr
      · rintro (h1 | h1)
        · exact absurd h1.symm h
        · exact h1
theorem begin_below {s lo : Nat} : ∀ (n : Nat), lo ≤ n → s.testBit n = true → ∃ u, lo ≤ u ∧ u ≤ n ∧ begins s lo u = true ∧ ∀ m, u ≤ m → m ≤ n → s.testBit m = true
  | 0, h, hb => ⟨0, h, Nat.le_refl _, by unfold begins; rw [hb, decide_eq_true (show 0 = lo by omega)]; rfl, fun m _ h2 => by rw [show m = 0 by omega]; exact hb⟩
  | n + 1, h, hb => by
    by_cases h1 : n + 1 = lo
    · exact ⟨n + 1, h, Nat.le_refl _, by unfold begins; rw [hb, decide_eq_true h1]; rfl, fun m q1 q2 => by rw [show m = n + 1 by omega]; exact hb⟩
    · cases hp : s.testBit n with
      | false => exact ⟨n + 1, h, Nat.le_refl _, by unfold begins; rw [hb, show n + 1 - 1 = n by omega, hp]; simp, fun m q1 q2 => by rw [show m = n + 1 by omega]; exact hb⟩
      | true =>
        obtain ⟨u, a1, a2, a3, a4⟩ := begin_below (s := s) (lo := lo) n (by omega) hp
        refine ⟨u, a1, by omega, a3, fun m q1 q2 => ?_⟩
        by_cases hm : m ≤ n
        · exact a4 m q1 hm
        · rw [show m = n + 1 by omega]; exact hb
theorem txts_mem {s lo hi v : Nat} {x : ByteArray} : x ∈ txtsUp s lo hi v ↔ ∃ u, u < v ∧ lo ≤ u ∧ begins s lo u = true ∧ runTxt u (runEnd s hi 64 u) = x := by
  unfold txtsUp
  rw [List.mem_map]
  constructor
  · rintro ⟨u, hu, e⟩
    rw [List.mem_filter, List.mem_range, Bool.and_eq_true, decide_eq_true_eq] at hu
    exact ⟨u, hu.1, hu.2.1, hu.2.2, e⟩
  · rintro ⟨u, h1, h2, h3, e⟩
    exact ⟨u, by rw [List.mem_filter, List.mem_range, Bool.and_eq_true, decide_eq_true_eq]; exact ⟨h1, h2, h3⟩, e⟩
structure FieldIn (s lo hi : Nat) : Prop where
  ne : s ≠ 0
  bits : ∀ n, s.testBit n = true → lo ≤ n ∧ n ≤ hi
  le : lo ≤ hi
  lt : hi ≤ 60
theorem txts_ne {s lo hi : Nat} (h : FieldIn s lo hi) : txtsUp s lo hi (hi + 1) ≠ [] := by
  obtain ⟨n, hn⟩ := Nat.exists_testBit_of_ne_zero h.ne
  obtain ⟨u, a1, a2, a3, _⟩ := begin_below n (h.bits n hn).1 hn
  have hm : runTxt u (runEnd s hi 64 u) ∈ txtsUp s lo hi (hi + 1) := txts_mem.2 ⟨u, by have := (h.bits n hn).2; omega, a1, a3, rfl⟩
  intro e; rw [e] at hm; cases hm
theorem join_pieces {s lo hi : Nat} (h : FieldIn s lo hi) : piecesB 44 (joinB 44 (txtsUp s lo hi (hi + 1))) = txtsUp s lo hi (hi + 1) := by
  refine piecesB_join (txts_ne h) fun x hx => ?_
  obtain ⟨u, a1, a2, a3, rfl⟩ := txts_mem.1 hx
  have := (runEnd_le s hi 64 u (by omega)).2.1
  exact runTxt_not (by have := h.lt; omega) (by have := h.lt; omega) (by decide) (by decide)
theorem join_field {s lo hi : Nat} (h : FieldIn s lo hi) : fieldOk lo hi (joinB 44 (txtsUp s lo hi (hi + 1))) = true ∧ fieldN lo hi (joinB 44 (txtsUp s lo hi (hi + 1))) = s := by
  have hit : ∀ x ∈ txtsUp s lo hi (hi + 1), ∃ u, lo ≤ u ∧ u ≤ hi ∧ begins s lo u = true ∧ itemN (lo : Int) (hi : Int) x = ticksF 100 (u : Int) (runEnd s hi 64 u : Nat) 1 := by
    intro x hx
    obtain ⟨u, a1, a2, a3, rfl⟩ := txts_mem.1 hx
    have hr := runEnd_le s hi 64 u (by omega)
    exact ⟨u, a2, by omega, a3, runTxt_item a2 hr.1 hr.2.1 (by have := h.lt; omega)⟩
  constructor
  · refine fieldOk_good fun x hx => ?_
    rw [join_pieces h] at hx
    obtain ⟨u, a1, a2, a3, e⟩ := hit x hx
    have hr := runEnd_le s hi 64 u (by omega)
    rw [e]
    intro e2
    have := (ticks_mem 100 u (runEnd s hi 64 u) (by have := h.lt; omega) u).2 ⟨Nat.le_refl _, hr.1⟩
    rw [e2] at this; cases this
  · unfold fieldN itemsN
    rw [join_pieces h]
    apply Nat.eq_of_testBit_eq
    intro n
    rw [maskN_bit]
    rw [Bool.eq_iff_iff, decide_eq_true_eq, List.mem_flatMap]
    constructor
    · rintro ⟨x, hx, hn⟩
      obtain ⟨u, a1, a2, a3, e⟩ := hit x hx
      have hr := runEnd_le s hi 64 u (by omega)
      rw [e, ticks_mem 100 u _ (by have := h.lt; omega)] at hn
      by_cases hnu : n = u
      · subst hnu
        unfold begins at a3
        rw [Bool.and_eq_true] at a3
        exact a3.1
      · exact hr.2.2 n (by omega) hn.2
    · intro hb
      obtain ⟨h1, h2⟩ := h.bits n hb
      obtain ⟨u, a1, a2, a3, a4⟩ := begin_below n h1 hb
      have hr := runEnd_le s hi 64 u (by omega)
      have hge : n ≤ runEnd s hi 64 u := by
        rcases Nat.lt_or_ge (runEnd s hi 64 u) n with hl | hl
        · have hx := runEnd_max s hi 64 u (by omega) (by have := h.lt; omega) (by omega)
          rw [a4 _ (by omega) (by omega)] at hx; cases hx
        · exact hl
      have hx : runTxt u (runEnd s hi 64 u) ∈ txtsUp s lo hi (hi + 1) := txts_mem.2 ⟨u, by omega, a1, a3, rfl⟩
      refine ⟨_, hx, ?_⟩
      rw [runTxt_item a1 hr.1 hr.2.1 (by have := h.lt; omega), ticks_mem 100 u _ (by have := h.lt; omega)]
      exact ⟨a2, hge⟩
end Tide
