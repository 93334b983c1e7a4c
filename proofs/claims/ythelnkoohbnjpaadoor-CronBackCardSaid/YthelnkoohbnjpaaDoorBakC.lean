/- What is printed is read as it was: the whole of a cron, plain. -/
import Derived.Test.YthelnkoohbnjpaaDoorBakM
import Derived.Test.YthelnkoohbnjpaaDoorPrtP
import Derived.Test.YthelnkoohbnjpaaDoorRdtC
set_option linter.unusedVariables false
set_option linter.unusedSimpArgs false
namespace Tide
open Go
set_option linter.unusedVariables false
def sumB (l : List ByteArray) : Nat := (l.map (fun x => x.size + 1)).sum
theorem tail_length (c : UInt8) : ∀ l : List ByteArray, (Lib.joinTail [c] (l.map (·.data.toList))).length = sumB l
  | [] => rfl
  | x :: l => by
    have ih := tail_length c l
    unfold Lib.joinTail sumB at ih ⊢
    simp only [List.map_cons, List.flatten_cons, List.length_append, List.sum_cons, List.length_cons, List.length_nil, Nat.zero_add] at ih ⊢
    rw [ih, ba_size]
    omega
theorem joinB_sum (c : UInt8) {l : List ByteArray} (h : l ≠ []) : (joinB c l).size + 1 = sumB l := by
  cases l with
  | nil => exact absurd rfl h
  | cons x l =>
    rw [ba_size]
    show (Lib.join (x.data.toList :: l.map (·.data.toList)) [c]).length + 1 = _
    rw [Lib.join_cons, List.length_append, tail_length]
    unfold sumB
    rw [List.map_cons, List.sum_cons, ba_size x]
    omega
theorem sumB_snoc (l : List ByteArray) (x : ByteArray) : sumB (l ++ [x]) = sumB l + (x.size + 1) := by
  unfold sumB; rw [List.map_append, List.sum_append]; simp
theorem runs_sum {s lo hi : Nat} (h : FieldIn s lo hi) : ∀ v, v ≤ hi + 1 → ∃ m, sumB (txtsUp s lo hi v) ≤ 2 * m ∧ lo + m ≤ hi + 2 ∧ ∀ u, v ≤ u → lo ≤ u → begins s lo u = true → lo + m ≤ u
  | 0, _ => ⟨0, Nat.le_refl _, by have := h.le; omega, fun u _ hu _ => hu⟩
  | v + 1, hv => by
    obtain ⟨m, h1, h2, h3⟩ := runs_sum h v (by omega)
    by_cases hb : lo ≤ v ∧ begins s lo v = true
    · rw [txtsUp_yes hb.1 hb.2, sumB_snoc]
      have h4 := h3 v (Nat.le_refl _) hb.1 hb.2
      obtain ⟨r1, r2, r3⟩ := runEnd_le s hi 64 v (by omega)
      have hlt := h.lt
      refine ⟨runEnd s hi 64 v + 2 - lo, ?_, by omega, fun u hu1 hu2 hu3 => ?_⟩
      · by_cases he : runEnd s hi 64 v = v
        · rw [he, runTxt_one]
          have := decB_size (show v < 100 by omega)
          omega
        · have := runTxt_size (a := v) (b := runEnd s hi 64 v) (by omega) (by omega)
          omega
      · have hbit : s.testBit u = true := by unfold begins at hu3; rw [Bool.and_eq_true] at hu3; exact hu3.1
        have hprev : u = lo ∨ s.testBit (u - 1) = false := by
          unfold begins at hu3
          rw [Bool.and_eq_true, Bool.or_eq_true, decide_eq_true_eq] at hu3
          rcases hu3.2 with q | q
          · exact .inl q
          · exact .inr (by simpa using q)
        have hu4 := (h.bits u hbit).2
        have hne : ¬ u ≤ runEnd s hi 64 v := fun hle => by
          rcases hprev with q | q
          · omega
          · by_cases hq : u - 1 = v
            · have hv1 : s.testBit v = true := by have := hb.2; unfold begins at this; rw [Bool.and_eq_true] at this; exact this.1
              rw [hq, hv1] at q; cases q
            · rw [r3 (u - 1) (by omega) (by omega)] at q; cases q
        have hne2 : u ≠ runEnd s hi 64 v + 1 := fun e => by
          have := runEnd_max s hi 64 v (by omega) (by omega) (by omega)
          rw [← e, hbit] at this; cases this
        omega
    · rw [txtsUp_no (by
        by_cases q : lo ≤ v
        · cases hbb : begins s lo v with
          | true => exact absurd ⟨q, hbb⟩ hb
          | false => simp
        · rw [decide_eq_false q]; rfl)]
      exact ⟨m, h1, h2, fun u a b c => h3 u (by omega) b c⟩
theorem join_not {c b : UInt8} (hbc : b ≠ c) {l : List ByteArray} (h : ∀ x ∈ l, b ∉ x.data.toList) : b ∉ (joinB c l).data.toList := by
  cases l with
  | nil => simp [joinB_nil]
  | cons x l =>
    show b ∉ Lib.join (x.data.toList :: l.map (·.data.toList)) [c]
    rw [Lib.join_cons, List.mem_append]
    rintro (q | q)
    · exact h x (by simp) q
    · unfold Lib.joinTail at q
      rw [List.mem_flatten] at q
      obtain ⟨y, hy, hb⟩ := q
      rw [List.mem_map] at hy
      obtain ⟨z, hz, rfl⟩ := hy
      obtain ⟨t, ht, rfl⟩ := List.mem_map.1 hz
      rw [List.mem_append] at hb
      rcases hb with hb | hb
      · simp at hb; exact hbc hb
      · exact h t (List.mem_cons_of_mem _ ht) hb
theorem txts_not {s lo hi : Nat} (hh : hi ≤ 60) {b : UInt8} (hb : digB b = false) (h45 : b ≠ 45) : ∀ x ∈ txtsUp s lo hi (hi + 1), b ∉ x.data.toList := fun x hx => by
  obtain ⟨u, a1, a2, a3, rfl⟩ := txts_mem.1 hx
  have := (runEnd_le s hi 64 u (by omega)).2.1
  exact runTxt_not (by omega) (by omega) hb h45
theorem field_not {s lo hi : Nat} {any : Bool} (hh : hi ≤ 60) : (32 : UInt8) ∉ (fieldTxt s lo hi any).data.toList := by
  unfold fieldTxt
  split
  · simp [star]
  · exact join_not (by decide) (txts_not hh (by decide) (by decide))
theorem field_sum {s lo hi : Nat} {any : Bool} (h : FieldIn s lo hi) : (fieldTxt s lo hi any).size + 1 ≤ 2 * (hi + 2 - lo) := by
  unfold fieldTxt
  have := h.le
  split
  · show 1 + 1 ≤ _; omega
  · obtain ⟨m, h1, h2, _⟩ := runs_sum h (hi + 1) (Nat.le_refl _)
    rw [joinB_sum 44 (txts_ne h)]
    omega
theorem join_star {s lo hi : Nat} (h : FieldIn s lo hi) : joinB 44 (txtsUp s lo hi (hi + 1)) ≠ star := fun e => by
  have h1 := join_pieces h
  rw [e, star_pieces] at h1
  have : (42 : UInt8) ∉ star.data.toList := txts_not (s := s) (lo := lo) h.lt (by decide) (by decide) star (by rw [← h1]; simp)
  exact this (by simp [star])
theorem any_star {ps : List ByteArray} {k : Nat} : isAny ps k = true ↔ pieceAt ps k = star := by
  unfold isAny
  rw [beq_iff_eq, Lib.toList_data]
  constructor
  · intro e; exact ba_ext e
  · intro e; rw [e]; rfl
end Tide
namespace Go.Proofs.YthelnkoohbnjpaaDoor
open Go.RowKit
set_option linter.unusedVariables false
theorem ok_in {c : Cr} (hf : c.fits) (h : c.ok = true) (k : Nat) (hk : k < 5) : Tide.FieldIn (c.set k) (Tide.lim k).1 (Tide.lim k).2 ∧ (∀ j, anK k = some j → c.anyAt k = true → c.set k = Tide.allN (Tide.lim k).1 (Tide.lim k).2) := by
  have h1 := Cr.ok_at h k hk
  have hl := Tide.lim_le k
  obtain ⟨b, hb, hba⟩ : ∃ b, c.okAt k = Tide.okField (c.set k) (Tide.lim k).1 (Tide.lim k).2 b ∧ (∀ j, anK k = some j → b = c.anyAt k) := by
    match k, hk with
    | 0, _ => exact ⟨_, rfl, fun j h => by cases h⟩
    | 1, _ => exact ⟨_, rfl, fun j h => by cases h⟩
    | 2, _ => exact ⟨_, rfl, fun j h => rfl⟩
    | 3, _ => exact ⟨_, rfl, fun j h => by cases h⟩
    | 4, _ => exact ⟨_, rfl, fun j h => rfl⟩
  rw [hb, Tide.okField_iff (c.set k) (c.set_fits hf k) _ _ hl.1 (by omega)] at h1
  refine ⟨⟨h1.1, h1.2.1, hl.1, hl.2⟩, fun j hj ha => ?_⟩
  rw [← hba j hj] at ha
  apply Nat.eq_of_testBit_eq
  intro n
  rw [Tide.allN_bit _ _ n hl.1]
  by_cases hn : (Tide.lim k).1 ≤ n ∧ n ≤ (Tide.lim k).2
  · rw [h1.2.2 ha n hn.1 hn.2, decide_eq_true hn.1, decide_eq_true hn.2]; rfl
  · cases hbt : (c.set k).testBit n with
    | true => exact absurd (h1.2.1 n hbt) hn
    | false => symm; rw [Bool.and_eq_false_iff, decide_eq_false_iff_not, decide_eq_false_iff_not]; omega
theorem txt_read {c : Cr} (hf : c.fits) (h : c.ok = true) (k : Nat) (hk : k < 5) : Tide.fieldOk (Tide.lim k).1 (Tide.lim k).2 (c.txt k) = true ∧ Tide.fieldN (Tide.lim k).1 (Tide.lim k).2 (c.txt k) = c.set k ∧ (∀ j, anK k = some j → (c.txt k = Tide.star ↔ c.anyAt k = true)) := by
  obtain ⟨h1, h2⟩ := ok_in hf h k hk
  unfold Cr.txt Tide.fieldTxt
  split
  · rename_i hs
    have := Tide.star_field k
    exact ⟨this.1, by rw [this.2, hs.1], fun j hj => ⟨fun _ => hs.2, fun _ => rfl⟩⟩
  · rename_i hs
    have := Tide.join_field h1
    refine ⟨this.1, this.2, fun j hj => ⟨fun e => absurd e (Tide.join_star h1), fun ha => ?_⟩⟩
    exact absurd ⟨h2 j hj ha, ha⟩ hs
theorem text_pieces (c : Cr) : Tide.piecesB 32 c.text = c.txts 5 := by
  refine Tide.piecesB_join (by intro e; have := c.txts_len 5; rw [e] at this; cases this) fun x hx => ?_
  obtain ⟨i, _, rfl⟩ := List.mem_map.1 hx
  exact Tide.field_not (Tide.lim_le i).2
theorem txts_at (c : Cr) (k : Nat) (hk : k < 5) : Tide.pieceAt (c.txts 5) k = c.txt k :=
  Tide.pieceAt_get (by unfold Cr.txts; rw [List.getElem?_map, List.getElem?_range hk]; rfl)
theorem text_small {c : Cr} (hf : c.fits) (h : c.ok = true) : c.text.size ≤ 300 := by
  have e := Tide.joinB_sum 32 (l := c.txts 5) (by intro e; have := c.txts_len 5; rw [e] at this; cases this)
  have f0 := Tide.field_sum (any := c.anyAt 0) (ok_in hf h 0 (by decide)).1
  have f1 := Tide.field_sum (any := c.anyAt 1) (ok_in hf h 1 (by decide)).1
  have f2 := Tide.field_sum (any := c.anyAt 2) (ok_in hf h 2 (by decide)).1
  have f3 := Tide.field_sum (any := c.anyAt 3) (ok_in hf h 3 (by decide)).1
  have f4 := Tide.field_sum (any := c.anyAt 4) (ok_in hf h 4 (by decide)).1
  have es : Tide.sumB (c.txts 5) = (c.txt 0).size + 1 + ((c.txt 1).size + 1 + ((c.txt 2).size + 1 + ((c.txt 3).size + 1 + ((c.txt 4).size + 1)))) := rfl
  have e0 : (c.txt 0).size + 1 ≤ 122 := f0
  have e1 : (c.txt 1).size + 1 ≤ 50 := f1
  have e2 : (c.txt 2).size + 1 ≤ 64 := f2
  have e3 : (c.txt 3).size + 1 ≤ 26 := f3
  have e4 : (c.txt 4).size + 1 ≤ 16 := f4
  have : c.text.size + 1 = Tide.sumB (c.txts 5) := e
  omega
/-- what is printed is read as it was -/
theorem cron_back {c : Cr} (hf : c.fits) (h : c.ok = true) : Tide.cronCode c.text = 0 ∧ cronV c.text = c.cells := by
  have hok : Tide.cronOk c.text = true := Tide.cronOk_good (text_small hf h) (by rw [text_pieces, c.txts_len]) fun k hk => by
    rw [text_pieces]; unfold Tide.fOk; rw [txts_at c k hk]; exact (txt_read hf h k hk).1
  have hM : ∀ k, k < 5 → Tide.fM (c.txts 5) k = c.set k := fun k hk => by unfold Tide.fM; rw [txts_at c k hk]; exact (txt_read hf h k hk).2.1
  have hA : ∀ k j, k < 5 → anK k = some j → Tide.isAny (c.txts 5) k = c.anyAt k := fun k j hk hj => by
    rw [Bool.eq_iff_iff, Tide.any_star, txts_at c k hk]; exact (txt_read hf h k hk).2.2 j hj
  refine ⟨?_, ?_⟩
  · unfold Tide.cronCode
    rw [if_neg (by have := text_small hf h; omega), if_pos hok]
  · unfold cronV
    rw [if_pos hok, text_pieces]
    unfold partV pm pa
    rw [hM 0 (by decide), hM 1 (by decide), hM 2 (by decide), hM 3 (by decide), hM 4 (by decide), hA 2 5 (by decide) rfl, hA 4 6 (by decide) rfl]
    rfl
/-- what is read is right -/
theorem cron_read (s : ByteArray) : (Tide.cronOk s = true ∧ Tide.cronCode s = 0 ∧ ∃ c : Cr, cronV s = c.cells ∧ c.fits ∧ c.ok = true) ∨ (Tide.cronCode s ≠ 0 ∧ cronV s = zeroV) := by
  by_cases hok : Tide.cronOk s = true
  · left
    have h2 := hok
    unfold Tide.cronOk at h2
    rw [Bool.and_eq_true, Bool.and_eq_true, decide_eq_true_eq, decide_eq_true_eq, List.all_eq_true] at h2
    have hk : ∀ k, k < 5 → Tide.fOk (Tide.piecesB 32 s) k = true := fun k hk => h2.2 k (List.mem_range.2 hk)
    refine ⟨hok, by unfold Tide.cronCode; rw [if_neg (by omega), if_pos hok], ?_⟩
    obtain ⟨ps, hps⟩ : ∃ ps, Tide.piecesB 32 s = ps := ⟨_, rfl⟩
    rw [hps] at hk
    have hv : cronV s = partV (Tide.piecesB 32 s) 5 := by unfold cronV; rw [if_pos hok]
    have hF : ∀ k, k < 5 → ∀ any : Bool, (any = true → Tide.isAny ps k = true) → Tide.okField (Tide.fM ps k : Nat) (Tide.lim k).1 (Tide.lim k).2 any = true := fun k hk5 any ha => by
      have hl := Tide.lim_le k
      rw [Tide.okField_iff _ (Tide.fM_lt ps k) _ _ hl.1 (by omega)]
      have hkk := hk k hk5
      unfold Tide.fOk Tide.fieldOk at hkk
      rw [List.all_eq_true] at hkk
      refine ⟨fun e => ?_, fun n hn => ?_, fun hany n h1 h2 => ?_⟩
      · have e2 := Tide.maskN_zero (show Tide.maskN (Tide.itemsN (Tide.lim k).1 (Tide.lim k).2 (Tide.piecesB 44 (Tide.pieceAt ps k))) = 0 from e)
        have hne : Tide.piecesB 44 (Tide.pieceAt ps k) ≠ [] := by intro q; have := Tide.piecesB_length 44 (Tide.pieceAt ps k); rw [q] at this; simp at this
        obtain ⟨x, l, hx⟩ := List.exists_cons_of_ne_nil hne
        have h3 := hkk x (by rw [hx]; simp)
        unfold Tide.itemsN at e2
        rw [hx, List.flatMap_cons] at e2
        have e4 := (List.append_eq_nil_iff.1 e2).1
        rw [e4] at h3; cases h3
      · have h4 : n ∈ Tide.itemsN (Tide.lim k).1 (Tide.lim k).2 (Tide.piecesB 44 (Tide.pieceAt ps k)) := by
          have := Tide.maskN_bit (Tide.itemsN (Tide.lim k).1 (Tide.lim k).2 (Tide.piecesB 44 (Tide.pieceAt ps k))) n
          rw [show Tide.maskN (Tide.itemsN (Tide.lim k).1 (Tide.lim k).2 (Tide.piecesB 44 (Tide.pieceAt ps k))) = Tide.fM ps k from rfl, hn] at this
          simpa using this.symm
        obtain ⟨x, _, hx⟩ := List.mem_flatMap.1 h4
        have := Tide.itemN_in (by omega) n hx
        omega
      · have e := Tide.any_star.1 (ha hany)
        have : Tide.fM ps k = Tide.allN (Tide.lim k).1 (Tide.lim k).2 := by unfold Tide.fM; rw [e]; exact (Tide.star_field k).2
        rw [this, Tide.allN_bit _ _ n hl.1, decide_eq_true h1, decide_eq_true h2]; rfl
    refine ⟨⟨Tide.fM ps 0, Tide.fM ps 1, Tide.fM ps 2, Tide.fM ps 3, Tide.fM ps 4, Tide.isAny ps 2, Tide.isAny ps 4⟩, by rw [hv, hps]; rfl, ⟨Tide.fM_lt _ _, Tide.fM_lt _ _, Tide.fM_lt _ _, Tide.fM_lt _ _, Tide.fM_lt _ _⟩, Cr.ok_of fun i hi => ?_⟩
    match i, hi with
    | 0, _ => exact hF 0 (by decide) false (fun h => by cases h)
    | 1, _ => exact hF 1 (by decide) false (fun h => by cases h)
    | 2, _ => exact hF 2 (by decide) _ id
    | 3, _ => exact hF 3 (by decide) false (fun h => by cases h)
    | 4, _ => exact hF 4 (by decide) _ id
  · right
    refine ⟨?_, by unfold cronV; rw [if_neg hok]⟩
    unfold Tide.cronCode
    by_cases q : 300 < s.size
    · rw [if_pos q]; decide
    · rw [if_neg q, if_neg hok]; decide
end Go.Proofs.YthelnkoohbnjpaaDoor
