/- The plain law of BufferFates: how requests go on. -/
import Derived.Test.YtgcdomoecikooaaBufP
namespace Tide
/-- how a request may have gone on -/
def Step (a r : Req) : Prop := r.source = a.source ∧ r.till = a.till ∧ (a.fate = r.fate ∨ a.fate = 1 ∧ r.fate = 2 ∨ a.fate = 1 ∧ r.fate = 4 ∨ a.fate = 2 ∧ r.fate = 3 ∨ a.fate = 2 ∧ r.fate = 5)
def Steps (l l' : List Req) : Prop := l.length ≤ l'.length ∧ ∀ (k : Nat) (a : Req), l[k]? = some a → ∃ r, l'[k]? = some r ∧ Step a r
structure Fair (l : List Req) : Prop where
  num : Numbered l
  one : ∀ s : Int, countF s 2 l ≤ 1 ∨ s < 0
  first : ∀ (i : Nat) (r : Req), l[i]? = some r → r.fate = 2 → ∀ (j : Nat) (x : Req), j < i → l[j]? = some x → waitsOf r.source x = false
theorem Fair.nil : Fair [] := ⟨fun k r h => by simp at h, fun s => .inl (by simp [countF]), fun i r h => by simp at h⟩
theorem Step.refl (a : Req) : Step a a := ⟨rfl, rfl, .inl rfl⟩
theorem Steps.refl (l : List Req) : Steps l l := ⟨Nat.le_refl _, fun k a h => ⟨a, h, Step.refl a⟩⟩
theorem count_le {p q : Req → Bool} : ∀ {l l' : List Req}, l'.length = l.length → (∀ (k : Nat) (r' : Req), l'[k]? = some r' → ∃ r, l[k]? = some r ∧ (p r' = true → q r = true)) → l'.countP p ≤ l.countP q
  | [], [], _, _ => Nat.le_refl _
  | [], a' :: l', h, _ => by simp at h
  | a :: l, [], h, _ => by simp at h
  | a :: l, a' :: l', h, hk => by
    have ih := count_le (l := l) (l' := l') (p := p) (q := q) (by simpa using h) (fun k r' hr => by
      obtain ⟨r, h1, h2⟩ := hk (k + 1) r' (by simpa using hr)
      exact ⟨r, by simpa using h1, h2⟩)
    obtain ⟨r, h1, h2⟩ := hk 0 a' rfl
    simp at h1; subst h1
    rw [List.countP_cons, List.countP_cons]
    cases ha : p a'
    · simp; omega
    · rw [h2 ha]; simp; omega
/-- who waits has waited, who runs has run -/
theorem Fair.calm {l l' : List Req} (h : Fair l) (hl : l'.length = l.length) (hk : ∀ (k : Nat) (r' : Req), l'[k]? = some r' → ∃ r, l[k]? = some r ∧ r'.id = r.id ∧ r'.source = r.source ∧ (r'.fate = 1 → r.fate = 1) ∧ (r'.fate = 2 → r.fate = 2)) : Fair l' := by
  refine ⟨fun k r' hr => ?_, fun s => ?_, fun i r' hi hf j x' hj hx => ?_⟩
  · obtain ⟨r, h1, h2, h3, _⟩ := hk k r' hr
    rw [h2, h3]; exact h.num k r h1
  · rcases h.one s with h1 | h1
    · refine .inl ?_
      have := count_le (p := hasF s 2) (q := hasF s 2) hl (fun k r' hr => by
        obtain ⟨r, e1, _, e3, _, e5⟩ := hk k r' hr
        refine ⟨r, e1, ?_⟩
        unfold hasF
        rw [e3, Bool.and_eq_true, Bool.and_eq_true]
        rintro ⟨f1, f2⟩
        exact ⟨by have := e5 (by simpa using f1); simpa using this, f2⟩)
      unfold countF at *; omega
    · exact .inr h1
  · obtain ⟨r, h1, _, h3, _, h5⟩ := hk i r' hi
    obtain ⟨x, f1, _, f3, f4, _⟩ := hk j x' hx
    have := h.first i r h1 (h5 hf) j x hj f1
    rw [h3]
    unfold waitsOf at this ⊢
    rw [f3]
    cases hs : (x.source == r.source)
    · rfl
    · rw [hs, Bool.true_and] at this
      rw [Bool.true_and]
      simp only [beq_eq_false_iff_ne] at this ⊢
      exact fun e => this (f4 e)
theorem Fair.map {l : List Req} (h : Fair l) (p : Req → Bool) (f : Int) (h1 : f ≠ 1) (h2 : f ≠ 2) : Fair (l.map (setF p f)) := by
  refine h.calm (by simp) fun k r' hk => ?_
  rw [List.getElem?_map] at hk
  obtain ⟨r, e1, rfl⟩ := Option.map_eq_some_iff.1 hk
  refine ⟨r, e1, ?_⟩
  unfold setF
  split
  · exact ⟨rfl, rfl, fun e => absurd e h1, fun e => absurd e h2⟩
  · exact ⟨rfl, rfl, id, id⟩
theorem steps_map {l : List Req} (p : Req → Bool) (f : Int) (hp : ∀ r, p r = true → Step r { r with fate := f }) : Steps l (l.map (setF p f)) := by
  refine ⟨by simp, fun k a ha => ⟨setF p f a, by rw [List.getElem?_map, ha]; rfl, ?_⟩⟩
  unfold setF
  split
  · rename_i e; exact hp a e
  · exact Step.refl a
theorem fair_late {l : List Req} (h : Fair l) (x : Int) : Fair (lateLst l x) ∧ Steps l (lateLst l x) := by
  unfold lateLst; split
  · refine ⟨h.map _ _ (by decide) (by decide), steps_map _ _ fun r hr => ⟨rfl, rfl, ?_⟩⟩
    unfold isLate at hr
    rw [Bool.and_eq_true] at hr
    exact .inr (.inr (.inl ⟨by simpa using hr.1, rfl⟩))
  · exact ⟨h, Steps.refl l⟩
theorem fair_lost {l : List Req} (h : Fair l) (x : Int) : Fair (lostLst l x) ∧ Steps l (lostLst l x) := by
  refine ⟨h.map _ _ (by decide) (by decide), steps_map _ _ fun r hr => ⟨rfl, rfl, ?_⟩⟩
  unfold isLost at hr
  rw [Bool.and_eq_true] at hr
  exact .inr (.inr (.inr (.inr ⟨by simpa using hr.1, rfl⟩)))
theorem set_get {l : List Req} {k : Nat} {r q : Req} (hr : l[k]? = some r) {j : Nat} {x : Req} (hx : (l.set k q)[j]? = some x) : (j = k ∧ x = q) ∨ (j ≠ k ∧ l[j]? = some x) := by
  by_cases e : k = j
  · subst e
    rw [List.getElem?_set_self (get_lt hr)] at hx
    exact .inl ⟨rfl, (Option.some.inj hx).symm⟩
  · rw [List.getElem?_set_ne e] at hx
    exact .inr ⟨fun c => e c.symm, hx⟩
theorem steps_set {l : List Req} {k : Nat} {r q : Req} (hr : l[k]? = some r) (h : Step r q) : Steps l (l.set k q) := by
  refine ⟨by simp, fun j a ha => ?_⟩
  by_cases e : k = j
  · subst e
    rw [hr] at ha; cases ha
    exact ⟨q, List.getElem?_set_self (get_lt hr), h⟩
  · exact ⟨a, by rw [List.getElem?_set_ne e]; exact ha, Step.refl a⟩
theorem fair_done {l : List Req} (h : Fair l) (id : Int) : Fair (doneLst l id) ∧ Steps l (doneLst l id) := by
  unfold doneLst
  cases hq : reqAt l id with
  | none => exact ⟨h, Steps.refl l⟩
  | some r =>
    simp only
    split
    · rename_i hf
      have hr := reqAt_get hq
      refine ⟨h.calm (by simp) fun k r' hk => ?_, steps_set hr ⟨rfl, rfl, .inr (.inr (.inr (.inl ⟨hf, rfl⟩)))⟩⟩
      rcases set_get hr hk with ⟨rfl, rfl⟩ | ⟨_, h1⟩
      · exact ⟨r, hr, rfl, rfl, fun e => absurd e (show (3 : Int) ≠ 1 by decide), fun e => absurd e (show (3 : Int) ≠ 2 by decide)⟩
      · exact ⟨r', h1, rfl, rfl, fun e => e, fun e => e⟩
    · exact ⟨h, Steps.refl l⟩
theorem fair_run {l : List Req} (h : Fair l) (id pod : Int) : Fair (runLst l id pod) ∧ Steps l (runLst l id pod) := by
  unfold runLst
  cases hq : reqAt l id with
  | none => exact ⟨h, Steps.refl l⟩
  | some r =>
    simp only
    split
    · rename_i hf
      have hr := reqAt_get hq
      have hid : id = ((id - 1).toNat : Int) + 1 := by
        unfold reqAt at hq; split at hq
        · omega
        · cases hq
      rw [hid] at hf
      generalize (id - 1).toNat = k at hr hf
      rw [firstN_is h.num hr, Bool.and_eq_true] at hf
      obtain ⟨f1, f2⟩ := hf
      unfold freeF at f1
      rw [Bool.and_eq_true] at f1
      have hf1 : r.fate = 1 := by simpa using f1.1
      have hc0 : countF r.source 2 l = 0 := by simpa using f1.2
      have hno : ∀ (j : Nat) (x : Req), j < k → l[j]? = some x → waitsOf r.source x = false := fun j x hj hx => by
        have e3 : (l.take k).any (waitsOf r.source) = false := by simpa using f2
        rw [List.any_eq_false] at e3
        have := e3 x (List.mem_of_getElem? (i := j) (by rw [List.getElem?_take, if_pos hj]; exact hx))
        simpa using this
      refine ⟨⟨fun j x hx => ?_, fun s => ?_, fun i x hi hxf j y hj hy => ?_⟩, steps_set hr ⟨rfl, rfl, .inr (.inl ⟨hf1, rfl⟩)⟩⟩
      · rcases set_get hr hx with ⟨rfl, rfl⟩ | ⟨_, h1⟩
        · exact h.num j r hr
        · exact h.num j x h1
      · rcases h.one s with h1 | h1
        · by_cases hs : 0 ≤ s
          · refine .inl ?_
            by_cases e : r.source = s
            · subst e
              have := List.countP_set (p := hasF r.source 2) (a := { r with fate := 2, pod := pod }) (get_lt hr)
              unfold countF at *
              rw [this]
              split <;> split <;> omega
            · have : (l.set k { r with fate := 2, pod := pod }).countP (hasF s 2) ≤ l.countP (hasF s 2) := count_le (by simp) fun j x hx => by
                rcases set_get hr hx with ⟨rfl, rfl⟩ | ⟨_, h1⟩
                · refine ⟨r, hr, fun c => ?_⟩
                  unfold hasF at c
                  rw [Bool.and_eq_true, Bool.or_eq_true] at c
                  rcases c.2 with c2 | c2
                  · simp at c2; omega
                  · simp at c2; exact absurd c2 e
                · exact ⟨x, h1, fun e => e⟩
              unfold countF at *; omega
          · exact .inr (by omega)
        · exact .inr h1
      · have hy' : l[j]? = some y ∨ y.fate = 2 := by
          rcases set_get hr hy with ⟨_, rfl⟩ | ⟨_, h1⟩
          · exact .inr rfl
          · exact .inl h1
        have hw2 : y.fate = 2 → ∀ s, waitsOf s y = false := fun e s => by unfold waitsOf; rw [e]; simp
        rcases hy' with hy' | hy'
        · rcases set_get hr hi with ⟨rfl, rfl⟩ | ⟨_, h1⟩
          · exact hno j y hj hy'
          · exact h.first i x h1 hxf j y hj hy'
        · exact hw2 hy' _
    · exact ⟨h, Steps.refl l⟩
theorem fair_ask {l : List Req} (h : Fair l) (now src ticks : Int) : Fair (askLst l now src ticks) ∧ Steps l (askLst l now src ticks) := by
  unfold askLst
  split
  · rename_i he
    unfold askErr at he
    split at he
    · cases he
    · split at he
      · cases he
      · rename_i h1 h2
        have hg : ∀ (k : Nat) (x : Req), (l ++ [⟨l.length + 1, src, now + ticks, 1, 0⟩])[k]? = some x → (k < l.length ∧ l[k]? = some x) ∨ (k = l.length ∧ x = ⟨l.length + 1, src, now + ticks, 1, 0⟩) := fun k x hk => by
          rcases Nat.lt_trichotomy k l.length with c | c | c
          · rw [List.getElem?_append_left c] at hk; exact .inl ⟨c, hk⟩
          · subst c
            rw [List.getElem?_append_right (Nat.le_refl _), Nat.sub_self] at hk
            simp at hk; exact .inr ⟨rfl, hk.symm⟩
          · rw [List.getElem?_eq_none (by simp; omega)] at hk; cases hk
        refine ⟨⟨fun k r hk => ?_, fun s => ?_, fun i r hi hf j x hj hx => ?_⟩, by simp, fun k a ha => ⟨a, ?_, Step.refl a⟩⟩
        · rcases hg k r hk with ⟨_, e⟩ | ⟨rfl, rfl⟩
          · exact h.num k r e
          · exact ⟨rfl, by simp only; omega, by simp only; omega⟩
        · rcases h.one s with e | e
          · refine .inl ?_
            unfold countF at *
            rw [List.countP_append, List.countP_singleton]
            have : hasF s 2 ⟨l.length + 1, src, now + ticks, 1, 0⟩ = false := by unfold hasF; simp
            rw [this]; simpa using e
          · exact .inr e
        · rcases hg i r hi with ⟨c, e⟩ | ⟨_, rfl⟩
          · rcases hg j x hx with ⟨_, e2⟩ | ⟨c2, _⟩
            · exact h.first i r e hf j x hj e2
            · omega
          · exact absurd hf (show (1 : Int) ≠ 2 by decide)
        · rw [List.getElem?_append_left (get_lt ha)]; exact ha
  · exact ⟨h, Steps.refl l⟩
/-- how many of a source run, of the first k -/
def runsOf (l : List Req) (k : Nat) (s : Int) : Int := (((l.take k).countP (fun r => (r.fate == 2) && (r.source == s)) : Nat) : Int)
theorem runsOf_zero (l : List Req) : runsOf l 0 = fun _ => 0 := by funext s; simp [runsOf]
theorem runsOf_no {l : List Req} {k : Nat} {r : Req} (hr : l[k]? = some r) (hf : (r.fate == 2) = false) : runsOf l k = runsOf l (k + 1) := by
  funext s; unfold runsOf; rw [count_snoc hr, hf]; simp
theorem runsOf_yes {l : List Req} {k : Nat} {r : Req} (hr : l[k]? = some r) (hf : (r.fate == 2) = true) : (fun j => if j = r.source then runsOf l k r.source + 1 else runsOf l k j) = runsOf l (k + 1) := by
  funext s
  unfold runsOf
  rw [count_snoc hr, hf]
  by_cases e : s = r.source
  · subst e; simp
  · rw [if_neg e]
    have : (r.source == s) = false := by simp only [beq_eq_false_iff_ne]; exact fun c => e c.symm
    rw [this]; simp
theorem runsOf_le {l : List Req} (h : Fair l) (k : Nat) {s : Int} (hs : 0 ≤ s) : 0 ≤ runsOf l k s ∧ runsOf l k s ≤ 1 := by
  have h1 : countF s 2 l ≤ 1 := by rcases h.one s with e | e; exact e; omega
  refine ⟨by unfold runsOf; omega, ?_⟩
  have h2 : (l.take k).countP (fun r => (r.fate == 2) && (r.source == s)) ≤ l.countP (fun r => (r.fate == 2) && (r.source == s)) := (List.take_sublist k l).countP_le
  have h3 : l.countP (fun r => (r.fate == 2) && (r.source == s)) = l.countP (hasF s 2) := by
    congr 1; funext r; unfold hasF
    rw [decide_eq_false (by omega)]; simp
  unfold runsOf countF at *
  omega
end Tide
