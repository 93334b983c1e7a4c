/- Of the texts PbkM, PpnM: what this claim reaches. -/
import Derived.Test.YtidonhndeohdlaaGreatDoorTt23
import Derived.Test.YtidonhndeohdlaaGreatDoorTt14
set_option linter.unusedVariables false
set_option linter.unusedSimpArgs false
namespace Tide
open Go
theorem dig_of {n : Nat} (h : n < 10) : digB (UInt8.ofNat (48 + n)) = true ∧ (UInt8.ofNat (48 + n)).toNat = 48 + n := by
  have e : (UInt8.ofNat (48 + n)).toNat = 48 + n := by rw [UInt8.toNat_ofNat']; omega
  refine ⟨?_, e⟩
  unfold digB
  rw [e, decide_eq_true (by omega), decide_eq_true (by omega)]; rfl
theorem dec_ne (u : Nat) : Lib.decDigits u ≠ [] := by
  intro e
  have h := Lib.decDigits_length u
  rw [e] at h
  have := Lib.nDigits_pos u
  simp at h; omega
theorem dec_all (u : Nat) : (Lib.decDigits u).all digB = true := by
  induction u using Nat.strongRecOn with
  | _ u ih =>
    by_cases h : u < 10
    · rw [Lib.decDigits_one h, List.all_cons, List.all_nil, (dig_of h).1]; rfl
    · rw [Lib.decDigits, dif_neg h, List.all_append, ih (u / 10) (by omega), List.all_cons, List.all_nil, (dig_of (show u % 10 < 10 by omega)).1]; rfl
theorem dec_val (u : Nat) : valL (Lib.decDigits u) = (u : Int) := by
  induction u using Nat.strongRecOn with
  | _ u ih =>
    by_cases h : u < 10
    · rw [Lib.decDigits_one h, show [UInt8.ofNat (48 + u)] = [] ++ [UInt8.ofNat (48 + u)] from rfl, valL_snoc, (dig_of h).2]
      show 10 * (0 : Int) + _ = _
      omega
    · rw [Lib.decDigits, dif_neg h, valL_snoc, ih (u / 10) (by omega), (dig_of (show u % 10 < 10 by omega)).2]
      omega
theorem dec_head (u : Nat) (h : (Lib.decDigits u).head? = some 48) : u = 0 := by
  induction u using Nat.strongRecOn with
  | _ u ih =>
    by_cases h1 : u < 10
    · rw [Lib.decDigits_one h1] at h
      have e : UInt8.ofNat (48 + u) = 48 := by simpa using h
      have := (dig_of h1).2
      rw [e] at this
      have h48 : (48 : UInt8).toNat = 48 := rfl
      omega
    · rw [Lib.decDigits, dif_neg h1] at h
      obtain ⟨b, l, hl⟩ := List.exists_cons_of_ne_nil (dec_ne (u / 10))
      have := ih (u / 10) (by omega) (by rw [hl] at h ⊢; exact h)
      omega
theorem dec_len {u : Nat} (h : u < 10000000) : (Lib.decDigits u).length ≤ 7 := by
  rw [Lib.decDigits_length]
  by_cases h0 : u < 10
  · rw [Lib.nDigits_small h0]; decide
  · rcases (show (10 ^ 1 ≤ u ∧ u < 10 ^ 2) ∨ (10 ^ 2 ≤ u ∧ u < 10 ^ 3) ∨ (10 ^ 3 ≤ u ∧ u < 10 ^ 4) ∨ (10 ^ 4 ≤ u ∧ u < 10 ^ 5) ∨ (10 ^ 5 ≤ u ∧ u < 10 ^ 6) ∨ (10 ^ 6 ≤ u ∧ u < 10 ^ 7) by omega) with h | h | h | h | h | h
    · rw [Lib.nDigits_unique 1 u h.1 h.2]; decide
    · rw [Lib.nDigits_unique 2 u h.1 h.2]; decide
    · rw [Lib.nDigits_unique 3 u h.1 h.2]; decide
    · rw [Lib.nDigits_unique 4 u h.1 h.2]; decide
    · rw [Lib.nDigits_unique 5 u h.1 h.2]; decide
    · rw [Lib.nDigits_unique 6 u h.1 h.2]; decide
theorem dec_not {u : Nat} {c : UInt8} (h : digB c = false) : c ∉ Lib.decDigits u := fun hm => by
  have := List.all_eq_true.1 (dec_all u) c hm
  rw [h] at this; cases this
theorem ito_not {n : Int} {c : UInt8} (h : digB c = false) (h45 : c ≠ 45) : c ∉ (itoB n).data.toList := by
  show c ∉ Lib.itoa n
  unfold Lib.itoa
  split
  · rw [List.mem_cons]
    rintro (e | e)
    · exact h45 e
    · exact dec_not h e
  · exact dec_not h
theorem ito_whole {n : Int} (h1 : -10000000 < n) (h2 : n < 10000000) : wholeOk 7 (itoB n).data.toList = true ∧ wholeV 7 (itoB n).data.toList = n := by
  show wholeOk 7 (Lib.itoa n) = true ∧ wholeV 7 (Lib.itoa n) = n
  unfold Lib.itoa
  have hpos : ∀ u, 1 ≤ (Lib.decDigits u).length := fun u => List.length_pos_iff.2 (dec_ne u)
  by_cases h : n < 0
  · rw [if_pos h]
    have hm : minusL (45 :: Lib.decDigits n.natAbs) = true := rfl
    have hd : digsL (45 :: Lib.decDigits n.natAbs) = Lib.decDigits n.natAbs := rfl
    have g := whole_good (l := 45 :: Lib.decDigits n.natAbs) (by rw [hd]; exact hpos _) (by rw [hd]; exact dec_len (by omega)) (by
      rw [hd]
      rintro ⟨q, _⟩
      have := dec_head _ q
      omega) (by rw [hd]; exact dec_all _)
    refine ⟨g.1, ?_⟩
    rw [g.2, hm, if_pos rfl, hd, dec_val]
    omega
  · rw [if_neg h]
    have hm : minusL (Lib.decDigits n.toNat) = false := by
      unfold minusL
      cases hh : (Lib.decDigits n.toNat).head? with
      | none => rfl
      | some b =>
        have hb : b ≠ 45 := by
          rintro rfl
          exact dec_not (u := n.toNat) (c := 45) (by decide) (List.mem_of_mem_head? hh)
        simpa using hb
    have hd : digsL (Lib.decDigits n.toNat) = Lib.decDigits n.toNat := by unfold digsL; rw [hm]; rfl
    have g := whole_good (l := Lib.decDigits n.toNat) (by rw [hd]; exact hpos _) (by rw [hd]; exact dec_len (by omega)) (by
      rw [hd, hm]
      rintro ⟨q, q2⟩
      have e := dec_head _ q
      rcases q2 with q2 | q2
      · rw [e, Lib.decDigits_one (by decide)] at q2; exact absurd q2 (by decide)
      · cases q2) (by rw [hd]; exact dec_all _)
    refine ⟨g.1, ?_⟩
    rw [g.2, hm, if_neg (by simp), hd, dec_val]
    omega
theorem row_list (w : ByteArray) (l : List Int) : (rowB w l).data.toList = w.data.toList ++ Lib.joinTail [32] (l.map fun n => (itoB n).data.toList) := by
  induction l generalizing w with
  | nil => show w.data.toList = w.data.toList ++ []; rw [List.append_nil]
  | cons n l ih =>
    have e : Lib.joinTail [32] ((n :: l).map fun n => (itoB n).data.toList) = 32 :: ((itoB n).data.toList ++ Lib.joinTail [32] (l.map fun n => (itoB n).data.toList)) := by
      rw [List.map_cons]; unfold Lib.joinTail; simp
    rw [e]
    show (rowB (w ++ (⟨#[32]⟩ ++ itoB n)) l).data.toList = _
    rw [ih]
    simp only [ByteArray.data_append, Array.toList_append, List.append_assoc]
    rfl
theorem tail_not {c : UInt8} (h32 : c ≠ 32) (l : List Int) (h : digB c = false) (h45 : c ≠ 45) : c ∉ Lib.joinTail [32] (l.map fun n => (itoB n).data.toList) := by
  unfold Lib.joinTail
  rw [List.mem_flatten]
  rintro ⟨y, hy, hb⟩
  rw [List.mem_map] at hy
  obtain ⟨z, hz, rfl⟩ := hy
  obtain ⟨n, _, rfl⟩ := List.mem_map.1 hz
  rw [List.mem_append] at hb
  rcases hb with hb | hb
  · simp at hb; exact h32 hb
  · exact ito_not h h45 hb
theorem row_not {w : ByteArray} {l : List Int} {c : UInt8} (hw : c ∉ w.data.toList) (h32 : c ≠ 32) (h : digB c = false) (h45 : c ≠ 45) : c ∉ (rowB w l).data.toList := by
  rw [row_list, List.mem_append]
  rintro (q | q)
  · exact hw q
  · exact tail_not h32 l h h45 q
theorem row_words {w : ByteArray} (l : List Int) (hw : (32 : UInt8) ∉ w.data.toList) : piecesB 32 (rowB w l) = w :: l.map itoB := by
  symm
  apply pieces_isB
  rw [row_list, pieces_tail hw (fun y hy => by
    obtain ⟨n, _, rfl⟩ := List.mem_map.1 hy
    exact ito_not (by decide) (by decide)), List.map_cons, List.map_map]
  rfl
theorem row_words2 {x y : ByteArray} (l : List Int) (hx : (32 : UInt8) ∉ x.data.toList) (hy : (32 : UInt8) ∉ y.data.toList) : piecesB 32 (rowB ((x ++ ⟨#[32]⟩) ++ y) l) = x :: y :: l.map itoB := by
  symm
  apply pieces_isB
  rw [row_list, show ((x ++ ⟨#[32]⟩) ++ y).data.toList ++ Lib.joinTail [32] (l.map fun n => (itoB n).data.toList) = x.data.toList ++ 32 :: (y.data.toList ++ Lib.joinTail [32] (l.map fun n => (itoB n).data.toList)) by
    simp [ByteArray.data_append], pieces_app _ hx, pieces_tail hy (fun z hz => by
    obtain ⟨n, _, rfl⟩ := List.mem_map.1 hz
    exact ito_not (by decide) (by decide)), List.map_cons, List.map_cons, List.map_map]
  rfl
theorem cut_line {rest x l : ByteArray} (h : rest.data.toList = x.data.toList ++ 10 :: l.data.toList) (hx : (10 : UInt8) ∉ x.data.toList) : cutZ 10 rest = true ∧ cutX 10 rest = x ∧ cutY 10 rest = l := by
  have e := cutB_app (c := 10) l.data.toList hx
  rw [← h] at e
  refine ⟨by unfold cutZ; rw [e], ba_ext (by unfold cutX; rw [e]), ba_ext (by unfold cutY; rw [e])⟩
end Tide
namespace Go.Proofs.YtidonhndeohdlaaGreatDoor
open Go.RowKit
theorem w_ito {n : Int} (h1 : -10000000 < n) (h2 : n < 10000000) : wOk (Tide.itoB n) = true ∧ wV (Tide.itoB n) = n := Tide.ito_whole h1 h2
theorem read_step {f i : Nat} {p p' : Pln} {rest x l : ByteArray} {ws : List ByteArray} (h : rest.data.toList = x.data.toList ++ 10 :: l.data.toList) (hx : (10 : UInt8) ∉ x.data.toList) (hw : Tide.piecesB 32 x = ws) (hl : lineN i p ws = some p') : readGo (f + 1) i p rest = readGo f (i + 1) p' l := by
  obtain ⟨h1, h2, h3⟩ := Tide.cut_line h hx
  have hs : rest.size ≠ 0 := by
    rw [Tide.ba_size, h]; simp
  conv => lhs; unfold readGo
  rw [if_neg (by omega), if_neg (by rw [h1]; simp)]
  unfold wordsOf
  rw [h2, hw, hl, h3]
theorem words4 {a b c d : Int} (h : ∀ x ∈ [a, b, c, d], -10000000 < x ∧ x < 10000000) : wordsOk ([a, b, c, d].map Tide.itoB) 4 = true := by
  unfold wordsOk
  rw [List.length_map, decide_eq_true (show [a, b, c, d].length = 4 from rfl), Bool.true_and, List.all_eq_true]
  intro x hx
  obtain ⟨n, hn, rfl⟩ := List.mem_map.1 hx
  exact (w_ito (h n hn).1 (h n hn).2).1
theorem v4 {a b c d : Int} (h : ∀ x ∈ [a, b, c, d], -10000000 < x ∧ x < 10000000) : wV (Tide.itoB a) = a ∧ wV (Tide.itoB b) = b ∧ wV (Tide.itoB c) = c ∧ wV (Tide.itoB d) = d :=
  ⟨(w_ito (h a (by simp)).1 (h a (by simp)).2).2, (w_ito (h b (by simp)).1 (h b (by simp)).2).2, (w_ito (h c (by simp)).1 (h c (by simp)).2).2, (w_ito (h d (by simp)).1 (h d (by simp)).2).2⟩
theorem line_row {i : Nat} {p : Pln} {w : ByteArray} {a b c d : Int} (h : ∀ x ∈ [a, b, c, d], -10000000 < x ∧ x < 10000000) : rowOk w (w :: [a, b, c, d].map Tide.itoB) = true := by
  unfold rowOk
  rw [decide_eq_true (show Tide.pieceAt (w :: [a, b, c, d].map Tide.itoB) 0 = w from rfl), Bool.true_and]
  exact words4 h
structure Pln.short (p : Pln) : Prop where
  i0 : ∀ x ∈ [p.mn, p.mx, p.poll, p.cool], -10000000 < x ∧ x < 10000000
  i1 : ∀ x ∈ [p.tol, p.back, p.after, p.shift], -10000000 < x ∧ x < 10000000
  i2 : ∀ x ∈ [p.up.win, p.up.pods, p.up.pct, p.up.per], -10000000 < x ∧ x < 10000000
  i3 : ∀ x ∈ [p.down.win, p.down.pods, p.down.pct, p.down.per], -10000000 < x ∧ x < 10000000
  name : nameOk p.name = true
  each : ∀ t ∈ p.trigs, trigE t = 0
theorem planE_short {p : Pln} (h : planE p = 0) : p.short := by
  unfold planE at h
  split at h
  · cases h
  · split at h
    · cases h
    · split at h
      · cases h
      · rename_i h1 h2 h3
        have h1' : nameOk p.name = true := by simpa using h1
        have h3' : p.nums = true := by simpa using h3
        unfold Pln.nums paceOk at h3'
        simp only [Bool.and_eq_true, wiB_iff] at h3'
        obtain ⟨a, b, c, d, e, f, g, i, ⟨u1, u2, u3, u4⟩, ⟨d1, d2, d3, d4⟩⟩ := h3'
        refine ⟨?_, ?_, ?_, ?_, h1', trigsE_mem h⟩
        · exact four_in (lo := 0) (hi := 0) (by omega) (by omega) (by omega) (by omega)
        · exact four_in (lo := 0) (hi := 0) (by omega) (by omega) (by omega) (by omega)
        · exact four_in (lo := 0) (hi := 0) (by omega) (by omega) (by omega) (by omega)
        · exact four_in (lo := 0) (hi := 0) (by omega) (by omega) (by omega) (by omega)
theorem name_not {s : ByteArray} (h : nameOk s = true) {c : UInt8} (hc : byteOk c = false) : c ∉ s.data.toList := fun hm => by
  unfold nameOk at h
  rw [Bool.and_eq_true, ← Array.all_toList, List.all_eq_true] at h
  have := h.1 c hm
  rw [hc] at this; cases this
theorem zero_is {c : Cr} (h : c.isZero = true) : c = crZ := by
  obtain ⟨a1, a2, a3, a4, a5, a6, a7⟩ := c
  unfold Cr.isZero at h
  simp only [Bool.and_eq_true, beq_iff_eq, Bool.not_eq_true'] at h
  obtain ⟨⟨⟨⟨⟨⟨h1, h2⟩, h3⟩, h4⟩, h5⟩, h6⟩, h7⟩ := h
  subst h1 h2 h3 h4 h5 h6 h7
  rfl
theorem Cr.cells_inj {a b : Cr} (h : a.cells = b.cells) : a = b := by
  obtain ⟨a1, a2, a3, a4, a5, a6, a7⟩ := a
  obtain ⟨b1, b2, b3, b4, b5, b6, b7⟩ := b
  have h' := congrArg Array.toList h
  simp only [Cr.cells, List.cons.injEq, Value.int.injEq, Value.bool.injEq, true_and, and_true, Int.ofNat_inj] at h'
  simp only [Cr.mk.injEq]
  exact h'
theorem crOf_cells {s : ByteArray} (h : Tide.cronOk s = true) : cronV s = (crOf s).cells := by
  unfold cronV; rw [if_pos h]; rfl
theorem cron_ok_back {c : Cr} (hf : c.fits) (h : c.ok = true) : Tide.cronOk c.text = true ∧ crOf c.text = c := by
  obtain ⟨h1, h2⟩ := cron_back hf h
  have hok : Tide.cronOk c.text = true := by
    cases hk : Tide.cronOk c.text with
    | true => rfl
    | false =>
      unfold Tide.cronCode at h1
      rw [hk] at h1
      split at h1
      · cases h1
      · rw [if_neg (by simp)] at h1; cases h1
  exact ⟨hok, Cr.cells_inj (by rw [← crOf_cells hok]; exact h2)⟩
theorem field_not2 {s lo hi : Nat} {any : Bool} (hh : hi ≤ 60) {b : UInt8} (hb : Tide.digB b = false) (h45 : b ≠ 45) (h42 : b ≠ 42) (h44 : b ≠ 44) : b ∉ (Tide.fieldTxt s lo hi any).data.toList := by
  unfold Tide.fieldTxt
  split
  · simp [Tide.star, h42]
  · exact Tide.join_not h44 (Tide.txts_not hh hb h45)
theorem txts_not2 {c : Cr} {b : UInt8} (hb : Tide.digB b = false) (h45 : b ≠ 45) (h42 : b ≠ 42) (h44 : b ≠ 44) : ∀ x ∈ c.txts 5, b ∉ x.data.toList := fun x hx => by
  obtain ⟨i, _, rfl⟩ := List.mem_map.1 hx
  exact field_not2 (Tide.lim_le i).2 hb h45 h42 h44
theorem text_not {c : Cr} {b : UInt8} (hb : Tide.digB b = false) (h45 : b ≠ 45) (h42 : b ≠ 42) (h44 : b ≠ 44) (h32 : b ≠ 32) : b ∉ c.text.data.toList := Tide.join_not h32 (txts_not2 hb h45 h42 h44)
theorem txts_len5 (c : Cr) : (c.txts 5).length = 5 := c.txts_len 5
def spanRow (n : Int) (a b : ByteArray) : ByteArray := (((⟨#[115, 112, 97, 110, 32]⟩ : ByteArray) ++ Tide.itoB n ++ ⟨#[32]⟩) ++ a) ++ ⟨#[32, 47, 32]⟩ ++ b
theorem spanTxt_row (n : Int) (a b : ByteArray) : spanTxt n a b = spanRow n a b ++ ⟨#[10]⟩ := by
  unfold spanTxt spanRow; rfl
theorem join_list (c : UInt8) {x : ByteArray} (l : List ByteArray) : (Tide.joinB c (x :: l)).data.toList = x.data.toList ++ Lib.joinTail [c] (l.map (·.data.toList)) := by
  show Lib.join (x.data.toList :: l.map (·.data.toList)) [c] = _
  rw [Lib.join_cons]
theorem pieces_tail2 {c : UInt8} : ∀ {xs : List (List UInt8)} {x : List UInt8} (l : List UInt8), c ∉ x → (∀ y ∈ xs, c ∉ y) → Tide.pieces c (x ++ Lib.joinTail [c] xs ++ c :: l) = x :: xs ++ Tide.pieces c l
  | [], x, l, h, _ => by
    show Tide.pieces c (x ++ [] ++ c :: l) = _
    rw [List.append_nil, Tide.pieces_app l h]; rfl
  | y :: xs, x, l, h, hs => by
    have ih := pieces_tail2 (xs := xs) (x := y) l (hs y (by simp)) (fun z hz => hs z (List.mem_cons_of_mem _ hz))
    have e : Lib.joinTail [c] (y :: xs) = c :: (y ++ Lib.joinTail [c] xs) := by
      unfold Lib.joinTail
      simp
    rw [e, List.append_assoc, List.cons_append, Tide.pieces_app _ h, ih]
    rfl
theorem span_words (n : Int) (a b : Cr) : Tide.piecesB 32 (spanRow n a.text b.text) = wdSpan :: Tide.itoB n :: (a.txts 5 ++ wdSlash :: b.txts 5) := by
  symm
  apply Tide.pieces_isB
  obtain ⟨x, xs, hx⟩ : ∃ x xs, a.txts 5 = x :: xs := List.exists_cons_of_ne_nil (by intro e; have := txts_len5 a; rw [e] at this; cases this)
  obtain ⟨y, ys, hy⟩ : ∃ y ys, b.txts 5 = y :: ys := List.exists_cons_of_ne_nil (by intro e; have := txts_len5 b; rw [e] at this; cases this)
  have ha := txts_not2 (c := a) (b := 32) (by decide) (by decide) (by decide) (by decide)
  have hb := txts_not2 (c := b) (b := 32) (by decide) (by decide) (by decide) (by decide)
  have ea : a.text.data.toList = x.data.toList ++ Lib.joinTail [32] (xs.map (·.data.toList)) := by
    show (Tide.joinB 32 (a.txts 5)).data.toList = _
    rw [hx, join_list]
  have eb : b.text.data.toList = y.data.toList ++ Lib.joinTail [32] (ys.map (·.data.toList)) := by
    show (Tide.joinB 32 (b.txts 5)).data.toList = _
    rw [hy, join_list]
  rw [hx] at ha ⊢
  rw [hy] at hb ⊢
  have e : (spanRow n a.text b.text).data.toList = wdSpan.data.toList ++ 32 :: ((Tide.itoB n).data.toList ++ 32 :: (x.data.toList ++ Lib.joinTail [32] (xs.map (·.data.toList)) ++ 32 :: (wdSlash.data.toList ++ 32 :: (y.data.toList ++ Lib.joinTail [32] (ys.map (·.data.toList)))))) := by
    rw [← ea, ← eb]
    unfold spanRow
    simp only [ByteArray.data_append, Array.toList_append, List.append_assoc]
    rfl
  rw [e, Tide.pieces_app _ (by decide), Tide.pieces_app _ (Tide.ito_not (by decide) (by decide)), pieces_tail2 _ (ha x (by simp)) (fun z hz => by
    obtain ⟨t, ht, rfl⟩ := List.mem_map.1 hz
    exact ha t (List.mem_cons_of_mem _ ht)), Tide.pieces_app _ (by decide), Tide.pieces_tail (hb y (by simp)) (fun z hz => by
    obtain ⟨t, ht, rfl⟩ := List.mem_map.1 hz
    exact hb t (List.mem_cons_of_mem _ ht))]
  simp
theorem idx_at (x : ByteArray) : ∀ (l r : List ByteArray) (i : Nat), (∀ z ∈ l, z ≠ x) → Lib.idxFromS (l ++ x :: r) x i = ((i + l.length : Nat) : Int)
  | [], r, i, _ => by
    show Lib.idxFromS (x :: r) x i = _
    unfold Lib.idxFromS
    rw [if_pos (by simp)]
    simp
  | z :: l, r, i, h => by
    have hz := h z (by simp)
    rw [List.cons_append]
    unfold Lib.idxFromS
    rw [if_neg (by simpa using hz), idx_at x l r (i + 1) (fun t ht => h t (List.mem_cons_of_mem _ ht))]
    simp only [List.length_cons]
    omega
theorem span_slash (n : Int) (a b : Cr) : slashAt (wdSpan :: Tide.itoB n :: (a.txts 5 ++ wdSlash :: b.txts 5)) = 7 := by
  unfold slashAt Lib.idxOfS
  have h := idx_at wdSlash (wdSpan :: Tide.itoB n :: a.txts 5) (b.txts 5) 0 (fun z hz => by
    have h47 : (47 : UInt8) ∈ wdSlash.data.toList := by decide
    rintro rfl
    rcases List.mem_cons.1 hz with e | hz
    · rw [e] at h47; exact absurd h47 (by decide)
    · rcases List.mem_cons.1 hz with e | hz
      · rw [e] at h47; exact Tide.ito_not (by decide) (by decide) h47
      · exact txts_not2 (b := 47) (by decide) (by decide) (by decide) (by decide) _ hz h47)
  rw [List.cons_append, List.cons_append, List.length_cons, List.length_cons, txts_len5] at h
  exact h
theorem trig_line {t : Trg} (he : trigE t = 0) (hf : t.fits) : ∃ x : ByteArray, t.text = x ++ ⟨#[10]⟩ ∧ (10 : UInt8) ∉ x.data.toList ∧ trigN (Tide.piecesB 32 x) = some t := by
  obtain ⟨kind, target, act, a, b⟩ := t
  have two : ∀ (k : Int) (w : ByteArray), kind = k → (k = 1 ∨ k = 2) → (10 : UInt8) ∉ w.data.toList → (32 : UInt8) ∉ w.data.toList → (∀ ws, Tide.pieceAt ws 0 = w → trigN ws = twoN k ws) →
      (10 : UInt8) ∉ (Tide.rowB w [target, act]).data.toList ∧ trigN (Tide.piecesB 32 (Tide.rowB w [target, act])) = some ⟨kind, target, act, a, b⟩ := by
    intro k w hk hk2 h10 h32 hT
    subst hk
    refine ⟨Tide.row_not h10 (by decide) (by decide) (by decide), ?_⟩
    unfold trigE at he
    rw [if_pos hk2] at he
    split at he
    · rename_i h1
      simp only [Bool.and_eq_true, wiB_iff] at h1
      obtain ⟨⟨t1, t2⟩, ⟨a1, a2⟩, za, zb⟩ := h1
      have g1 := w_ito (n := target) (by show -10000000 < target; have : (1 : Int) ≤ target := t1; omega) (by have : target ≤ (1000000 : Int) := t2; omega)
      have g2 := w_ito (n := act) (by have : (0 : Int) ≤ act := a1; omega) (by have : act ≤ (1000000 : Int) := a2; omega)
      rw [Tide.row_words _ h32, hT _ rfl]
      unfold twoN
      have hw : wordsOk ((w :: [target, act].map Tide.itoB).drop 1) 2 = true := by
        unfold wordsOk
        show (decide (([target, act].map Tide.itoB).length = 2) && _) = true
        rw [decide_eq_true (show ([target, act].map Tide.itoB).length = 2 from rfl), Bool.true_and, List.all_eq_true]
        intro x hx
        simp only [List.drop_succ_cons, List.drop_zero, List.map_cons, List.map_nil, List.mem_cons, List.not_mem_nil, or_false] at hx
        rcases hx with rfl | rfl
        · exact g1.1
        · exact g2.1
      rw [if_pos hw]
      have ea : a = crZ := zero_is za
      have eb : b = crZ := zero_is zb
      rw [ea, eb]
      show some (⟨kind, wV (Tide.itoB target), wV (Tide.itoB act), crZ, crZ⟩ : Trg) = _
      rw [g1.2, g2.2]
    · cases he
  by_cases h1 : kind = 1
  · obtain ⟨q1, q2⟩ := two 1 wdLag h1 (.inl rfl) (by decide) (by decide) (fun ws h => if_pos h)
    exact ⟨_, by unfold Trg.text; rw [if_pos h1]; rfl, q1, q2⟩
  · by_cases h2 : kind = 2
    · obtain ⟨q1, q2⟩ := two 2 wdDepth h2 (.inr rfl) (by decide) (by decide) (fun ws h => by unfold trigN; rw [h, if_neg (by decide), if_pos rfl])
      exact ⟨_, by unfold Trg.text; rw [if_neg h1, if_pos h2]; rfl, q1, q2⟩
    · unfold trigE at he
      rw [if_neg (by show ¬ (kind = 1 ∨ kind = 2); omega)] at he
      split at he
      · rename_i h3
        have h3' : kind = 3 := h3
        split at he
        · rename_i h4
          simp only [Bool.and_eq_true, wiB_iff, beq_iff_eq] at h4
          obtain ⟨⟨t1, t2⟩, ha0⟩ := h4
          have t1' : (1 : Int) ≤ target := t1
          have t2' : target ≤ (50 : Int) := t2
          have ha0' : act = 0 := ha0
          have g1 := w_ito (n := target) (by omega) (by omega)
          have hab : a.ok = true ∧ b.ok = true := by
            unfold spanE at he
            unfold Cr.err at he
            revert he
            cases a.ok <;> cases b.ok <;> simp
          obtain ⟨oa, ca⟩ := cron_ok_back hf.1 hab.1
          obtain ⟨ob, cb⟩ := cron_ok_back hf.2 hab.2
          refine ⟨spanRow target a.text b.text, by unfold Trg.text; rw [if_neg h1, if_neg h2]; exact spanTxt_row _ _ _, ?_, ?_⟩
          · unfold spanRow
            simp only [ByteArray.data_append, Array.toList_append, List.mem_append]
            rintro (((((q | q) | q) | q) | q) | q)
            · exact absurd q (by decide)
            · exact Tide.ito_not (by decide) (by decide) q
            · exact absurd q (by decide)
            · exact text_not (by decide) (by decide) (by decide) (by decide) (by decide) q
            · exact absurd q (by decide)
            · exact text_not (by decide) (by decide) (by decide) (by decide) (by decide) q
          · rw [span_words]
            show (if wdSpan = wdLag then _ else if wdSpan = wdDepth then _ else if wdSpan = wdSpan then _ else none) = _
            rw [if_neg (show ¬ wdSpan = wdLag by decide), if_neg (show ¬ wdSpan = wdDepth by decide), if_pos (show wdSpan = wdSpan from rfl)]
            have hsl := span_slash target a b
            have l5 := txts_len5 a
            have eA : spanA (wdSpan :: Tide.itoB target :: (a.txts 5 ++ wdSlash :: b.txts 5)) = a.text := by
              unfold spanA
              rw [hsl]
              show Tide.joinB 32 (((wdSpan :: Tide.itoB target :: (a.txts 5 ++ wdSlash :: b.txts 5)).take 7).drop 2) = _
              rw [show (wdSpan :: Tide.itoB target :: (a.txts 5 ++ wdSlash :: b.txts 5)).take 7 = wdSpan :: Tide.itoB target :: (a.txts 5 ++ wdSlash :: b.txts 5).take 5 from rfl, List.take_left' l5]
              rfl
            have eB : spanB (wdSpan :: Tide.itoB target :: (a.txts 5 ++ wdSlash :: b.txts 5)) = b.text := by
              unfold spanB
              rw [hsl]
              show Tide.joinB 32 ((wdSpan :: Tide.itoB target :: (a.txts 5 ++ wdSlash :: b.txts 5)).drop 8) = _
              rw [show (wdSpan :: Tide.itoB target :: (a.txts 5 ++ wdSlash :: b.txts 5)).drop 8 = (a.txts 5 ++ wdSlash :: b.txts 5).drop 6 from rfl, show (6 : Nat) = (a.txts 5).length + 1 by rw [l5], List.drop_append]
              rfl
            have hk : timedOk (wdSpan :: Tide.itoB target :: (a.txts 5 ++ wdSlash :: b.txts 5)) = true := by
              unfold timedOk
              rw [eA, eB, oa, ob, hsl, show Tide.pieceAt (wdSpan :: Tide.itoB target :: (a.txts 5 ++ wdSlash :: b.txts 5)) 1 = Tide.itoB target from rfl, g1.1]
              rfl
            unfold timedN
            rw [if_pos hk, eA, eB, ca, cb, show Tide.pieceAt (wdSpan :: Tide.itoB target :: (a.txts 5 ++ wdSlash :: b.txts 5)) 1 = Tide.itoB target from rfl, g1.2, h3', ha0']
        · cases he
      · cases he
theorem size_step {rest x l : ByteArray} (h : rest.data.toList = x.data.toList ++ 10 :: l.data.toList) : l.size < rest.size := by
  have h1 := congrArg List.length h
  have h2 := Tide.ba_size l
  have h3 := Tide.ba_size rest
  rw [List.length_append, List.length_cons] at h1
  omega
theorem trigs_read : ∀ (l : List Trg) (f i : Nat) (q : Pln) (rest : ByteArray), (∀ t ∈ l, trigE t = 0 ∧ t.fits) → rest.data.toList = l.flatMap (fun t => t.text.data.toList) → 4 ≤ i → rest.size < f → readGo f i q rest = (some { q with trigs := q.trigs ++ l }, 0)
  | [], f, i, q, rest, _, hr, h4, hf => by
    obtain ⟨g, rfl⟩ : ∃ g, f = g + 1 := ⟨f - 1, by omega⟩
    have hs : rest.size = 0 := by rw [Tide.ba_size, hr]; rfl
    unfold readGo
    rw [if_pos ⟨h4, hs⟩, List.append_nil]
  | t :: l, f, i, q, rest, hl, hr, h4, hf => by
    obtain ⟨g, rfl⟩ : ∃ g, f = g + 1 := ⟨f - 1, by omega⟩
    obtain ⟨x, e1, e2, e3⟩ := trig_line (hl t (by simp)).1 (hl t (by simp)).2
    have hr' : rest.data.toList = x.data.toList ++ 10 :: (⟨(l.flatMap (fun t => t.text.data.toList)).toArray⟩ : ByteArray).data.toList := by
      rw [hr, List.flatMap_cons, e1]
      simp [ByteArray.data_append]
    obtain ⟨j, rfl⟩ : ∃ j, i = j + 4 := ⟨i - 4, by omega⟩
    rw [read_step (p' := { q with trigs := q.trigs ++ [t] }) hr' e2 rfl (by show (trigN (Tide.piecesB 32 x)).map _ = _; rw [e3]; rfl)]
    rw [trigs_read l g (j + 4 + 1) _ ⟨(l.flatMap (fun t => t.text.data.toList)).toArray⟩ (fun u hu => hl u (List.mem_cons_of_mem _ hu)) (by rw [List.toList_toArray]) (by omega) (by have := size_step hr'; omega)]
    simp
theorem fold_list (l : List Trg) (w : ByteArray) : (l.foldl (fun a t => a ++ t.text) w).data.toList = w.data.toList ++ l.flatMap (fun t => t.text.data.toList) := by
  induction l generalizing w with
  | nil => simp
  | cons t l ih => rw [List.foldl_cons, ih, List.flatMap_cons, ByteArray.data_append, Array.toList_append, List.append_assoc]
theorem plan_back {p : Pln} (he : planE p = 0) (hf : ∀ t ∈ p.trigs, t.fits) (hs : p.text.size ≤ 2048) : readR p.text = (p, 0, 0) := by
  have hp := planE_short he
  obtain ⟨T, hT⟩ : ∃ T : ByteArray, T.data.toList = p.trigs.flatMap (fun t => t.text.data.toList) := ⟨⟨(p.trigs.flatMap (fun t => t.text.data.toList)).toArray⟩, List.toList_toArray⟩
  obtain ⟨r0, e0⟩ : ∃ r0 : ByteArray, r0 = Tide.rowB (((⟨#[112, 108, 97, 110]⟩ : ByteArray) ++ ⟨#[32]⟩) ++ p.name) [p.mn, p.mx, p.poll, p.cool] := ⟨_, rfl⟩
  obtain ⟨r1, e1⟩ : ∃ r1 : ByteArray, r1 = Tide.rowB wdRest [p.tol, p.back, p.after, p.shift] := ⟨_, rfl⟩
  obtain ⟨r2, e2⟩ : ∃ r2 : ByteArray, r2 = Tide.rowB wdUp [p.up.win, p.up.pods, p.up.pct, p.up.per] := ⟨_, rfl⟩
  obtain ⟨r3, e3⟩ : ∃ r3 : ByteArray, r3 = Tide.rowB wdDown [p.down.win, p.down.pods, p.down.pct, p.down.per] := ⟨_, rfl⟩
  have n10 : (10 : UInt8) ∉ p.name.data.toList := name_not hp.name (by decide)
  have n32 : (32 : UInt8) ∉ p.name.data.toList := name_not hp.name (by decide)
  have m0 : (10 : UInt8) ∉ r0.data.toList := by
    rw [e0]; refine Tide.row_not ?_ (by decide) (by decide) (by decide)
    simp only [ByteArray.data_append, Array.toList_append, List.mem_append]
    rintro ((q | q) | q)
    · exact absurd q (by decide)
    · exact absurd q (by decide)
    · exact n10 q
  have m1 : (10 : UInt8) ∉ r1.data.toList := by rw [e1]; exact Tide.row_not (by decide) (by decide) (by decide) (by decide)
  have m2 : (10 : UInt8) ∉ r2.data.toList := by rw [e2]; exact Tide.row_not (by decide) (by decide) (by decide) (by decide)
  have m3 : (10 : UInt8) ∉ r3.data.toList := by rw [e3]; exact Tide.row_not (by decide) (by decide) (by decide) (by decide)
  have w0 : Tide.piecesB 32 r0 = wdPlan :: p.name :: [p.mn, p.mx, p.poll, p.cool].map Tide.itoB := by rw [e0]; exact Tide.row_words2 _ (by decide) n32
  have w1 : Tide.piecesB 32 r1 = wdRest :: [p.tol, p.back, p.after, p.shift].map Tide.itoB := by rw [e1]; exact Tide.row_words _ (by decide)
  have w2 : Tide.piecesB 32 r2 = wdUp :: [p.up.win, p.up.pods, p.up.pct, p.up.per].map Tide.itoB := by rw [e2]; exact Tide.row_words _ (by decide)
  have w3 : Tide.piecesB 32 r3 = wdDown :: [p.down.win, p.down.pods, p.down.pct, p.down.per].map Tide.itoB := by rw [e3]; exact Tide.row_words _ (by decide)
  obtain ⟨t3, h3⟩ : ∃ t3 : ByteArray, t3.data.toList = r3.data.toList ++ 10 :: T.data.toList := ⟨⟨(r3.data.toList ++ 10 :: T.data.toList).toArray⟩, List.toList_toArray⟩
  obtain ⟨t2, h2⟩ : ∃ t2 : ByteArray, t2.data.toList = r2.data.toList ++ 10 :: t3.data.toList := ⟨⟨(r2.data.toList ++ 10 :: t3.data.toList).toArray⟩, List.toList_toArray⟩
  obtain ⟨t1, h1⟩ : ∃ t1 : ByteArray, t1.data.toList = r1.data.toList ++ 10 :: t2.data.toList := ⟨⟨(r1.data.toList ++ 10 :: t2.data.toList).toArray⟩, List.toList_toArray⟩
  have h0 : p.text.data.toList = r0.data.toList ++ 10 :: t1.data.toList := by
    unfold Pln.text
    rw [fold_list, h1, h2, h3, hT]
    unfold Pln.top Pln.row0 Pln.row1 Pln.row2 Pln.row3 Tide.lineB
    have ew : (⟨#[112, 108, 97, 110, 32]⟩ : ByteArray) = (⟨#[112, 108, 97, 110]⟩ : ByteArray) ++ ⟨#[32]⟩ := by decide
    rw [ew, ← e0]
    simp only [ByteArray.data_append, Array.toList_append, List.append_assoc]
    rw [e1, e2, e3]
    rfl
  have s0 := size_step h0; have s1 := size_step h1; have s2 := size_step h2; have s3 := size_step h3
  obtain ⟨f, hf4⟩ : ∃ f, p.text.size + 1 = f + 1 + 1 + 1 + 1 ∧ T.size < f := ⟨p.text.size + 1 - 4, by omega, by omega⟩
  have hgo : readGo (p.text.size + 1) 0 zeroP p.text = (some p, 0) := by
    rw [hf4.1]
    rw [read_step (p' := { zeroP with name := p.name, mn := p.mn, mx := p.mx, poll := p.poll, cool := p.cool }) h0 m0 w0 (by
      have hh : headOk (wdPlan :: p.name :: [p.mn, p.mx, p.poll, p.cool].map Tide.itoB) = true := by
        unfold headOk
        rw [show Tide.pieceAt (wdPlan :: p.name :: [p.mn, p.mx, p.poll, p.cool].map Tide.itoB) 1 = p.name from rfl, hp.name, decide_eq_true (show Tide.pieceAt (wdPlan :: p.name :: [p.mn, p.mx, p.poll, p.cool].map Tide.itoB) 0 = wdPlan from rfl), decide_eq_true (show (wdPlan :: p.name :: [p.mn, p.mx, p.poll, p.cool].map Tide.itoB).length = 6 from rfl)]
        exact words4 hp.i0
      have hv := v4 hp.i0
      show (if _ then some _ else none) = _
      rw [if_pos hh]
      show some ({ zeroP with name := p.name, mn := wV (Tide.itoB p.mn), mx := wV (Tide.itoB p.mx), poll := wV (Tide.itoB p.poll), cool := wV (Tide.itoB p.cool) } : Pln) = _
      rw [hv.1, hv.2.1, hv.2.2.1, hv.2.2.2])]
    rw [read_step (p' := { zeroP with name := p.name, mn := p.mn, mx := p.mx, poll := p.poll, cool := p.cool, tol := p.tol, back := p.back, after := p.after, shift := p.shift }) h1 m1 w1 (by
      have hv := v4 hp.i1
      show (if _ then some _ else none) = _
      rw [if_pos (line_row (i := 1) (p := p) hp.i1)]
      show some ({ zeroP with name := p.name, mn := p.mn, mx := p.mx, poll := p.poll, cool := p.cool, tol := wV (Tide.itoB p.tol), back := wV (Tide.itoB p.back), after := wV (Tide.itoB p.after), shift := wV (Tide.itoB p.shift) } : Pln) = _
      rw [hv.1, hv.2.1, hv.2.2.1, hv.2.2.2])]
    rw [read_step (p' := { zeroP with name := p.name, mn := p.mn, mx := p.mx, poll := p.poll, cool := p.cool, tol := p.tol, back := p.back, after := p.after, shift := p.shift, up := p.up }) h2 m2 w2 (by
      have hv := v4 hp.i2
      show (if _ then some _ else none) = _
      rw [if_pos (line_row (i := 2) (p := p) hp.i2)]
      show some ({ zeroP with name := p.name, mn := p.mn, mx := p.mx, poll := p.poll, cool := p.cool, tol := p.tol, back := p.back, after := p.after, shift := p.shift, up := ⟨wV (Tide.itoB p.up.win), wV (Tide.itoB p.up.pods), wV (Tide.itoB p.up.pct), wV (Tide.itoB p.up.per)⟩ } : Pln) = _
      rw [hv.1, hv.2.1, hv.2.2.1, hv.2.2.2])]
    rw [read_step (p' := { zeroP with name := p.name, mn := p.mn, mx := p.mx, poll := p.poll, cool := p.cool, tol := p.tol, back := p.back, after := p.after, shift := p.shift, up := p.up, down := p.down }) h3 m3 w3 (by
      have hv := v4 hp.i3
      show (if _ then some _ else none) = _
      rw [if_pos (line_row (i := 3) (p := p) hp.i3)]
      show some ({ zeroP with name := p.name, mn := p.mn, mx := p.mx, poll := p.poll, cool := p.cool, tol := p.tol, back := p.back, after := p.after, shift := p.shift, up := p.up, down := ⟨wV (Tide.itoB p.down.win), wV (Tide.itoB p.down.pods), wV (Tide.itoB p.down.pct), wV (Tide.itoB p.down.per)⟩ } : Pln) = _
      rw [hv.1, hv.2.1, hv.2.2.1, hv.2.2.2])]
    rw [trigs_read p.trigs f 4 _ T (fun t ht => ⟨hp.each t ht, hf t ht⟩) hT (Nat.le_refl _) hf4.2]
    rfl
  unfold readR
  rw [if_neg (by omega), hgo]
  show (if planE p = 0 then (p, 0, 0) else (zeroP, 0, planE p)) = _
  rw [if_pos he]
open Go.RowKit
structure PnS (w0 W : World) (g : Nat) (cs : Array Value) (A : Option Addr) (cap : Nat) (ts : List Trg) : Prop where
  at_ : Tide.At W g 26 cs
  tab : PowTab W
  row : Tide.ListIn W 17 Trg.enc (.slice A ts.length cap) ts
  below : Below w0.heap.size w0 W
section
variable {w0 W W' : World} {g : Nat} {cs : Array Value} {A : Option Addr} {cap : Nat} {ts : List Trg}
theorem PnS.next (h : PnS w0 W g cs A cap ts) (hb : Below W.heap.size W W') : PnS w0 W' g cs A cap ts :=
  ⟨h.at_.below hb h.at_.inside, h.tab.below hb, h.row.below hb (Nat.le_refl _), h.below.trans (hb.mono h.below.size)⟩
theorem PnS.alloc (h : PnS w0 W g cs A cap ts) (o : Obj) : PnS w0 (W.alloc o) g cs A cap ts := h.next ((Below.refl _ _).alloc (Nat.le_refl _) o)
theorem PnS.drew (h : PnS w0 W g cs A cap ts) : PnS w0 W.drew g cs A cap ts := ⟨h.at_.drew, h.tab, h.row, h.below.drew⟩
end
theorem at_made' (w : World) (t : TypeId) (cs : Array Value) (n : Nat) (hn : n = w.heap.size) : Tide.At (w.alloc (.cells cs t)) n t cs := hn ▸ Tide.At.made w t cs
def PrnPost (p : Pln) (w : World) (e : Ending) (w' : World) : Prop := e = .returned (.tuple #[.string (if planE p = 0 then p.text else ⟨#[]⟩), .int .i64 (planE p)]) ∧ Below w.heap.size w w'
structure RowF (t word : ByteArray) (a b c d : Int) : Prop where
  hi : ∀ x ∈ [a, b, c, d], IntW x
  hw : word.size ≤ 1000
  e : t = Tide.lineB word [a, b, c, d]
structure DuoF (t word : ByteArray) (a b : Int) : Prop where
  hi : ∀ x ∈ [a, b], IntW x
  hw : word.size ≤ 1000
  e : t = Tide.lineB word [a, b]
theorem line4 {w0 W : World} {g : Nat} {cs : Array Value} {A : Option Addr} {cap : Nat} {ts : List Trg} (t word : ByteArray) (a b c d : Int) {k : Nat} (hb : Tide.At W k 3 #[.int .i64 a, .int .i64 b, .int .i64 c, .int .i64 d]) (hs : PnS w0 W g cs A cap ts) (hr : RowF t word a b c d) : Calls Tryz.prog 18 #[.string word, .slice (some ⟨k, 0, none⟩) 4 4] W fun e w' => e = .returned (.string t) ∧ Below W.heap.size W w' ∧ PnS w0 w' g cs A cap ts := by
  rw [hr.e]; exact (planLine word [a, b, c, d] 4 rfl (by decide) hr.hi hr.hw k 4 W hb hs.tab).mono fun _ w' ⟨he, hb⟩ => ⟨he, hb, hs.next hb⟩
theorem line2 {w0 W : World} {g : Nat} {cs : Array Value} {A : Option Addr} {cap : Nat} {ts : List Trg} (t word : ByteArray) (a b : Int) {k : Nat} (hb : Tide.At W k 3 #[.int .i64 a, .int .i64 b]) (hs : PnS w0 W g cs A cap ts) (hr : DuoF t word a b) : Calls Tryz.prog 18 #[.string word, .slice (some ⟨k, 0, none⟩) 2 2] W fun e w' => e = .returned (.string t) ∧ Below W.heap.size W w' ∧ PnS w0 w' g cs A cap ts := by
  rw [hr.e]; exact (planLine word [a, b] 2 rfl (by decide) hr.hi hr.hw k 2 W hb hs.tab).mono fun _ w' ⟨he, hb⟩ => ⟨he, hb, hs.next hb⟩
theorem sayItoa {w0 W : World} {g : Nat} {cs : Array Value} {A : Option Addr} {cap : Nat} {ts : List Trg} (n : Int) (hn : IntW n) (hs : PnS w0 W g cs A cap ts) : Calls Tryz.prog 20 #[.int .i64 n] W fun e w' => e = .returned (.string (Tide.itoB n)) ∧ Below W.heap.size W w' ∧ PnS w0 w' g cs A cap ts :=
  (itoaAny n hn W hs.tab).mono fun _ w' ⟨he, hb⟩ => ⟨he, hb, hs.next hb⟩
end Go.Proofs.YtidonhndeohdlaaGreatDoor
