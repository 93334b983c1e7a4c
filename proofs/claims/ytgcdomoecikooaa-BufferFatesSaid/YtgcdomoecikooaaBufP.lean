/- The plain law of BufferPlays: what holds of the requests at each turn; who is next. -/
import Derived.Test.YtgcdomoecikooaaHalE
namespace Tide
/-- what holds of a buffer's requests behind each turn -/
structure Good (l : List Req) : Prop where
  num : Numbered l
  few : ∀ s : Int, 0 ≤ s → countF s 1 l ≤ 20
  all : countF (-1) 1 l ≤ 60
theorem Good.nil : Good [] := ⟨fun k r h => by simp at h, fun s _ => by simp [countF], by simp [countF]⟩
/-- numbers and sources are kept; none waits that hasn't -/
def Tame (l l' : List Req) : Prop := l'.length = l.length ∧ ∀ (k : Nat) (r' : Req), l'[k]? = some r' → ∃ r, l[k]? = some r ∧ r'.id = r.id ∧ r'.source = r.source ∧ r'.till = r.till ∧ (r'.fate = 1 → r.fate = 1)
theorem Tame.tail {a a' : Req} {l l' : List Req} (h : Tame (a :: l) (a' :: l')) : Tame l l' := ⟨by simpa using h.1, fun k r' hk => by
  obtain ⟨r, h1, h2⟩ := h.2 (k + 1) r' (by simpa using hk)
  exact ⟨r, by simpa using h1, h2⟩⟩
theorem Tame.count (s : Int) : ∀ {l l' : List Req}, Tame l l' → l'.countP (hasF s 1) ≤ l.countP (hasF s 1)
  | [], [], _ => Nat.le_refl _
  | [], a' :: l', h => by have := h.1; simp at this
  | a :: l, [], h => by have := h.1; simp at this
  | a :: l, a' :: l', h => by
    have ih := Tame.count s h.tail
    obtain ⟨r, h1, _, h2, _, h3⟩ := h.2 0 a' rfl
    simp at h1; subst h1
    rw [List.countP_cons, List.countP_cons]
    have : hasF s 1 a' = true → hasF s 1 a = true := by
      unfold hasF
      rw [h2, Bool.and_eq_true, Bool.and_eq_true]
      rintro ⟨e1, e2⟩
      exact ⟨by have := h3 (by simpa using e1); simpa using this, e2⟩
    cases ha : hasF s 1 a'
    · simp; omega
    · rw [this ha]; simp; omega
theorem Good.tame {l l' : List Req} (h : Good l) (t : Tame l l') : Good l' := by
  refine ⟨fun k r' hk => ?_, fun s hs => ?_, ?_⟩
  · obtain ⟨r, h1, h2, h3, _, _⟩ := t.2 k r' hk
    rw [h2, h3]; exact h.num k r h1
  · have := h.few s hs; have := t.count s; unfold countF at *; omega
  · have := h.all; have := t.count (-1); unfold countF at *; omega
theorem tame_refl (l : List Req) : Tame l l := ⟨rfl, fun k r h => ⟨r, h, rfl, rfl, rfl, id⟩⟩
theorem tame_map (p : Req → Bool) (f : Int) (hf : f ≠ 1) (l : List Req) : Tame l (l.map (setF p f)) := ⟨by simp, fun k r' hk => by
  rw [List.getElem?_map] at hk
  obtain ⟨r, h1, rfl⟩ := Option.map_eq_some_iff.1 hk
  refine ⟨r, h1, ?_⟩
  unfold setF
  split
  · exact ⟨rfl, rfl, rfl, fun e => absurd e hf⟩
  · exact ⟨rfl, rfl, rfl, id⟩⟩
theorem tame_set {l : List Req} {k : Nat} {r q : Req} (hr : l[k]? = some r) (h1 : q.id = r.id) (h2 : q.source = r.source) (h3 : q.till = r.till) (h4 : q.fate ≠ 1) : Tame l (l.set k q) := ⟨by simp, fun j r' hj => by
  by_cases e : k = j
  · subst e
    rw [List.getElem?_set_self (get_lt hr)] at hj
    cases hj
    exact ⟨r, hr, h1, h2, h3, fun e => absurd e h4⟩
  · rw [List.getElem?_set_ne e] at hj
    exact ⟨r', hj, rfl, rfl, rfl, id⟩⟩
theorem tame_late (l : List Req) (x : Int) : Tame l (lateLst l x) := by
  unfold lateLst; split
  · exact tame_map _ _ (by decide) l
  · exact tame_refl l
theorem tame_lost (l : List Req) (x : Int) : Tame l (lostLst l x) := tame_map _ _ (by decide) l
theorem reqAt_get {l : List Req} {id : Int} {r : Req} (h : reqAt l id = some r) : l[(id - 1).toNat]? = some r := by
  unfold reqAt at h; split at h
  · exact h
  · cases h
theorem tame_run (l : List Req) (id pod : Int) : Tame l (runLst l id pod) := by
  unfold runLst
  cases h : reqAt l id with
  | none => exact tame_refl l
  | some r =>
    simp only
    split
    · exact tame_set (reqAt_get h) rfl rfl rfl (show (2 : Int) ≠ 1 by decide)
    · exact tame_refl l
theorem tame_done (l : List Req) (id : Int) : Tame l (doneLst l id) := by
  unfold doneLst
  cases h : reqAt l id with
  | none => exact tame_refl l
  | some r =>
    simp only
    split
    · exact tame_set (reqAt_get h) rfl rfl rfl (show (3 : Int) ≠ 1 by decide)
    · exact tame_refl l
theorem Good.ask {l : List Req} (h : Good l) (now src ticks : Int) : Good (askLst l now src ticks) := by
  unfold askLst
  split
  · rename_i he
    unfold askErr at he
    split at he
    · cases he
    · split at he
      · cases he
      · split at he
        · cases he
        · rename_i h1 h2 h3
          have hs := h.few src (by omega)
          refine ⟨fun k r hk => ?_, fun s hs => ?_, ?_⟩
          · rcases Nat.lt_trichotomy k l.length with c | c | c
            · rw [List.getElem?_append_left c] at hk; exact h.num k r hk
            · subst c
              rw [List.getElem?_append_right (Nat.le_refl _), Nat.sub_self] at hk
              simp at hk; subst hk
              exact ⟨rfl, by simp only; omega, by simp only; omega⟩
            · rw [List.getElem?_eq_none (by simp; omega)] at hk; cases hk
          · have e := h.few s hs
            unfold countF at *
            rw [List.countP_append, List.countP_singleton]
            by_cases c : src = s
            · subst c; simp [hasF]; omega
            · have : hasF s 1 ⟨l.length + 1, src, now + ticks, 1, 0⟩ = false := by unfold hasF; simp [c]; omega
              rw [this]; simpa using e
          · have e := h.all
            unfold countF at *
            rw [List.countP_append, List.countP_singleton]
            have : hasF (-1) 1 ⟨l.length + 1, src, now + ticks, 1, 0⟩ = true := by unfold hasF; simp
            rw [this]; simp; omega
  · exact h
theorem firstN_pos {l : List Req} {s : Int} (hn : Numbered l) (h : 0 < firstN l s) : ∃ (j : Nat) (r : Req), l[j]? = some r ∧ firstN l s = (j : Int) + 1 ∧ freeF l r = true ∧ r.source = s := by
  have hp := countF_nn s 2 l
  unfold firstN at h ⊢
  by_cases hc : 0 < countF s 2 l
  · rw [if_pos hc] at h; omega
  · rw [if_neg hc] at h ⊢
    cases hf : firstAt (waitsOf s) l with
    | none => rw [hf] at h; simp at h
    | some i =>
      obtain ⟨a, h1, h2, h3⟩ := firstAt_spec hf
      refine ⟨i, a, h1, ?_, ?_⟩
      · simp only; rw [h1]; exact (hn i a h1).1
      · unfold waitsOf at h2
        rw [Bool.and_eq_true] at h2
        have e : a.source = s := by simpa using h2.1
        refine ⟨?_, e⟩
        unfold freeF
        rw [h2.2, e]
        simp; omega
theorem best_succ' (l : List Req) (k : Nat) : (List.range (k + 1)).foldl (bestStep l) 0 = bestStep l ((List.range k).foldl (bestStep l) 0) k := by
  rw [List.range_succ, List.foldl_append]; rfl
theorem best_inv (l : List Req) : ∀ k : Nat, ((List.range k).foldl (bestStep l) 0 = 0 ∧ ∀ s : Nat, s < k → ¬ 0 < firstN l s) ∨ (0 < (List.range k).foldl (bestStep l) 0 ∧ (∃ s : Nat, s < k ∧ firstN l s = (List.range k).foldl (bestStep l) 0) ∧ ∀ s : Nat, s < k → 0 < firstN l s → (List.range k).foldl (bestStep l) 0 ≤ firstN l s)
  | 0 => .inl ⟨rfl, fun s h => by omega⟩
  | k + 1 => by
    have ih := best_inv l k
    rw [best_succ']
    generalize (List.range k).foldl (bestStep l) 0 = b at ih ⊢
    unfold bestStep
    by_cases c : 0 < firstN l k ∧ (b = 0 ∨ firstN l k < b)
    · rw [if_pos c]
      refine .inr ⟨c.1, ⟨k, by omega, rfl⟩, fun s hs hp => ?_⟩
      rcases Nat.lt_succ_iff_lt_or_eq.1 hs with h | h
      · rcases ih with ⟨h1, h2⟩ | ⟨h1, h2, h3⟩
        · exact absurd hp (h2 s h)
        · have := h3 s h hp; omega
      · subst h; exact Int.le_refl _
    · rw [if_neg c]
      rcases ih with ⟨h1, h2⟩ | ⟨h1, ⟨s0, h2, h4⟩, h3⟩
      · refine .inl ⟨h1, fun s hs => ?_⟩
        rcases Nat.lt_succ_iff_lt_or_eq.1 hs with h | h
        · exact h2 s h
        · subst h; omega
      · refine .inr ⟨h1, ⟨s0, by omega, h4⟩, fun s hs hp => ?_⟩
        rcases Nat.lt_succ_iff_lt_or_eq.1 hs with h | h
        · exact h3 s h hp
        · subst h; omega
/-- both find the same next one -/
theorem next_same {l : List Req} (hn : Numbered l) : nextN l = nextH l := by
  have hb := best_inv l 6
  unfold nextN nextH
  generalize (List.range 6).foldl (bestStep l) 0 = b at hb ⊢
  cases hf : firstAt (freeF l) l with
  | none =>
    simp only
    rcases hb with ⟨h1, _⟩ | ⟨h1, ⟨s, _, h2⟩, _⟩
    · exact h1
    · obtain ⟨j, r, e1, _, e3, _⟩ := firstN_pos hn (s := s) (by omega)
      rw [firstAt_miss hf j r e1] at e3; cases e3
  | some i =>
    obtain ⟨r, e1, e2, e3⟩ := firstAt_spec hf
    simp only
    have hr := hn i r e1
    have h0 : firstN l r.source = (i : Int) + 1 := by
      rw [firstN_is hn e1, e2, Bool.true_and]
      have : (l.take i).any (waitsOf r.source) = false := by
        rw [List.any_eq_false]
        intro x hx hw
        obtain ⟨j, hj⟩ := List.mem_iff_getElem?.1 hx
        rw [List.getElem?_take] at hj
        split at hj
        · rename_i hji
          have := e3 j x hji hj
          unfold freeF at this e2
          unfold waitsOf at hw
          rw [Bool.and_eq_true] at hw e2
          have hs : x.source = r.source := by simpa using hw.1
          rw [hw.2, hs, e2.2] at this; cases this
        · cases hj
      rw [this]; rfl
    obtain ⟨s, hs⟩ := Int.eq_ofNat_of_zero_le hr.2.1
    have hs6 : s < 6 := by omega
    rw [hs] at h0
    rcases hb with ⟨_, h2⟩ | ⟨h1, ⟨s', _, h2⟩, h3⟩
    · exact absurd (show 0 < firstN l s by omega) (h2 s hs6)
    · have h4 := h3 s hs6 (by omega)
      obtain ⟨j, q, f1, f2, f3, _⟩ := firstN_pos hn (s := s') (by omega)
      rcases Nat.lt_or_ge j i with c | c
      · rw [e3 j q c f1] at f3; cases f3
      · omega
end Tide
