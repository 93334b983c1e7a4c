/- The plain laws of a fleet: what is kept by each order; counts and sums. -/
import Derived.Test.YtgcdomoecikooaaFleM
namespace Tide
theorem split_at {l : List Pod} {i : Nat} {p : Pod} (h : l[i]? = some p) : l = l.take i ++ p :: l.drop (i + 1) := by
  conv => lhs; rw [← List.take_append_drop i l]
  rw [drop_of_get h]
theorem erase_at {l : List Pod} {i : Nat} : l.eraseIdx i = l.take i ++ l.drop (i + 1) := List.eraseIdx_eq_take_drop_succ l i
theorem set_at {l : List Pod} {i : Nat} {p q : Pod} (h : l[i]? = some p) : l.set i q = l.take i ++ q :: l.drop (i + 1) := by
  rw [List.set_eq_take_append_cons_drop, if_pos (get_lt h)]
theorem live_erase {l : List Pod} {i : Nat} {p : Pod} (h : l[i]? = some p) : liveN (l.eraseIdx i) = liveN l - (if lives p then 1 else 0) := by
  unfold liveN
  conv => rhs; rw [split_at h]
  rw [erase_at, List.countP_append, List.countP_append, List.countP_cons]
  split <;> simp <;> omega
theorem live_set {l : List Pod} {i : Nat} {p q : Pod} (h : l[i]? = some p) : liveN (l.set i q) = liveN l - (if lives p then 1 else 0) + (if lives q then 1 else 0) := by
  unfold liveN
  conv => rhs; rw [split_at h]
  rw [set_at h, List.countP_append, List.countP_append, List.countP_cons, List.countP_cons]
  split <;> split <;> simp <;> omega
def sumL (l : List Pod) : Int := (l.map (·.load)).sum
theorem sum_erase {l : List Pod} {i : Nat} {p : Pod} (h : l[i]? = some p) : sumL (l.eraseIdx i) = sumL l - p.load := by
  unfold sumL
  conv => rhs; rw [split_at h]
  rw [erase_at, List.map_append, List.sum_append, List.map_append, List.sum_append, List.map_cons, List.sum_cons]
  omega
theorem sum_set {l : List Pod} {i : Nat} {p q : Pod} (h : l[i]? = some p) : sumL (l.set i q) = sumL l - p.load + q.load := by
  unfold sumL
  conv => rhs; rw [split_at h]
  rw [set_at h, List.map_append, List.sum_append, List.map_append, List.sum_append, List.map_cons, List.sum_cons, List.map_cons, List.sum_cons]
  omega
theorem best_at {st : Int} {f : Pod → Pod → Bool} {l : List Pod} {i : Nat} (h : best st f l = some i) : ∃ p, l[i]? = some p ∧ p.state = st := by
  obtain ⟨_, p, hp, hs⟩ := pick_lt h
  exact ⟨p, hp, by simpa using hs⟩
theorem best_no {st : Int} {f : Pod → Pod → Bool} {l : List Pod} (h : best st f l = none) : ∀ p ∈ l, p.state ≠ st := by
  intro p hp
  obtain ⟨i, hi⟩ := List.mem_iff_getElem?.1 hp
  have := pick_none h i p (get_lt hi) hi
  simpa using this
theorem victim {l : List Pod} (hs : ∀ p ∈ l, 1 ≤ p.state ∧ p.state ≤ 4) (hl : 0 < liveN l) (h1 : best 1 gtId l = none) (h2 : best 2 gtId l = none) : ∃ i, best 3 ltBoth l = some i := by
  cases h3 : best 3 ltBoth l with
  | some i => exact ⟨i, rfl⟩
  | none =>
    have : l.countP lives = 0 := by
      rw [List.countP_eq_zero]
      intro p hp
      have a := hs p hp; have b1 := best_no h1 p hp; have b2 := best_no h2 p hp; have b3 := best_no h3 p hp
      unfold lives
      have : p.state = 4 := by omega
      simp [this]
    unfold liveN at hl; omega
/-- what a look does: one that lives is taken, or is drained -/
theorem fewer_cases {l : List Pod} (hs : ∀ p ∈ l, 1 ≤ p.state ∧ p.state ≤ 4) (hl : 0 < liveN l) : ∃ i p, l[i]? = some p ∧ lives p = true ∧ p.state ≤ 3 ∧ ((fewerL l = l.eraseIdx i ∧ (p.state = 3 → p.load = 0)) ∨ (fewerL l = l.set i { p with state := 4 } ∧ p.state = 3 ∧ p.load ≠ 0)) := by
  unfold fewerL
  cases h1 : best 1 gtId l with
  | some i =>
    obtain ⟨p, hp, hs1⟩ := best_at h1
    exact ⟨i, p, hp, by unfold lives; rw [hs1]; rfl, by omega, .inl ⟨rfl, fun e => by omega⟩⟩
  | none =>
    cases h2 : best 2 gtId l with
    | some i =>
      obtain ⟨p, hp, hs1⟩ := best_at h2
      exact ⟨i, p, hp, by unfold lives; rw [hs1]; rfl, by omega, .inl ⟨rfl, fun e => by omega⟩⟩
    | none =>
      obtain ⟨i, h3⟩ := victim hs hl h1 h2
      obtain ⟨p, hp, hs1⟩ := best_at h3
      have hla : loadAt l i = p.load := by unfold loadAt; rw [hp]; rfl
      refine ⟨i, p, hp, by unfold lives; rw [hs1]; rfl, by omega, ?_⟩
      simp only [h3, hla]
      by_cases c : p.load = 0
      · exact .inl ⟨by rw [if_pos c], fun _ => c⟩
      · exact .inr ⟨by rw [if_neg c]; unfold drainAt; rw [hp], hs1, c⟩
theorem fewer_live {l : List Pod} (hs : ∀ p ∈ l, 1 ≤ p.state ∧ p.state ≤ 4) (hl : 0 < liveN l) : liveN (fewerL l) = liveN l - 1 := by
  obtain ⟨i, p, hp, hl, _, ⟨e, _⟩ | ⟨e, _, _⟩⟩ := fewer_cases hs hl
  · rw [e, live_erase hp, hl]; rfl
  · rw [e, live_set hp, hl]; simp [lives]
theorem mem_set {l : List Pod} {i : Nat} {q x : Pod} (h : x ∈ l.set i q) : x ∈ l ∨ x = q := List.mem_or_eq_of_mem_set h
theorem up_set {l : List Pod} {i : Nat} {p q : Pod} (h : l.Pairwise (fun a b => a.id < b.id)) (hp : l[i]? = some p) (e : q.id = p.id) : (l.set i q).Pairwise (fun a b => a.id < b.id) := by
  have h1 : (l.map (·.id)).Pairwise (· < ·) := by rw [List.pairwise_map]; exact h
  have h2 : (l.set i q).map (·.id) = l.map (·.id) := by
    rw [List.map_set, e]
    conv => rhs; rw [← List.set_getElem_self (as := l.map (·.id)) (i := i) (by rw [List.length_map]; exact get_lt hp)]
    congr 1
    rw [List.getElem_map]
    have := List.getElem?_eq_getElem (get_lt hp)
    rw [this] at hp
    rw [Option.some.inj hp]
  rw [← h2, List.pairwise_map] at h1
  exact h1
theorem Crewed.erase {l : List Pod} {last most : Int} (h : Crewed l last most) (i : Nat) : Crewed (l.eraseIdx i) last most :=
  ⟨h.up.sublist (List.eraseIdx_sublist l i), fun p hp => h.ids p ((List.eraseIdx_sublist l i).subset hp), fun p hp => h.states p ((List.eraseIdx_sublist l i).subset hp), fun p hp => h.loads p ((List.eraseIdx_sublist l i).subset hp), h.last0⟩
theorem Crewed.set {l : List Pod} {last most : Int} (h : Crewed l last most) {i : Nat} {p q : Pod} (hp : l[i]? = some p) (e : q.id = p.id) (h1 : 1 ≤ q.state ∧ q.state ≤ 4) (h2 : 0 ≤ q.load ∧ q.load ≤ most ∧ (0 < q.load → 3 ≤ q.state) ∧ (q.state = 4 → 0 < q.load)) : Crewed (l.set i q) last most := by
  have hm := List.mem_of_getElem? hp
  refine ⟨up_set h.up hp e, fun x hx => ?_, fun x hx => ?_, fun x hx => ?_, h.last0⟩ <;> rcases mem_set hx with c | c
  · exact h.ids x c
  · rw [c, e]; exact h.ids p hm
  · exact h.states x c
  · rw [c]; exact h1
  · exact h.loads x c
  · rw [c]; exact h2
theorem Crewed.fewer {l : List Pod} {last most : Int} (h : Crewed l last most) (hl : 0 < liveN l) : Crewed (fewerL l) last most ∧ sumL (fewerL l) = sumL l ∧ (fewerL l).length ≤ l.length := by
  obtain ⟨i, p, hp, hlv, h3, ⟨e, hz⟩ | ⟨e, hz1, hz2⟩⟩ := fewer_cases h.states hl
  · have hl := h.loads p (List.mem_of_getElem? hp)
    have : p.load = 0 := by
      by_cases c : p.state = 3
      · exact hz c
      · have := hl.2.2.1; omega
    rw [e]
    exact ⟨h.erase i, by rw [sum_erase hp, this]; omega, (List.eraseIdx_sublist l i).length_le⟩
  · have hl := h.loads p (List.mem_of_getElem? hp)
    rw [e]
    exact ⟨h.set hp rfl ⟨show (1 : Int) ≤ 4 by decide, show (4 : Int) ≤ 4 by decide⟩ ⟨hl.1, hl.2.1, fun _ => by show (3:Int) ≤ 4; decide, fun _ => by show 0 < p.load; omega⟩, by rw [sum_set hp]; simp only; omega, by simp⟩
theorem newPods_length (last : Int) (m : Nat) : (newPods last m).length = m := by simp [newPods]
theorem newPods_succ (last : Int) (m : Nat) : newPods last (m + 1) = newPods last m ++ [⟨last + 1 + (m : Int), 1, 0⟩] := by
  unfold newPods; rw [List.range_succ, List.map_append]; rfl
theorem newPods_mem {last : Int} {m : Nat} {p : Pod} (h : p ∈ newPods last m) : last + 1 ≤ p.id ∧ p.id ≤ last + m ∧ p.state = 1 ∧ p.load = 0 := by
  unfold newPods at h
  obtain ⟨i, hi, rfl⟩ := List.mem_map.1 h
  rw [List.mem_range] at hi
  exact ⟨by simp only; omega, by simp only; omega, rfl, rfl⟩
theorem newPods_live (last : Int) (m : Nat) : (newPods last m).countP lives = m := by
  have : (newPods last m).countP lives = (newPods last m).length := by
    rw [List.countP_eq_length]
    intro p hp
    unfold lives; rw [(newPods_mem hp).2.2.1]; rfl
  rw [this, newPods_length]
theorem live_more (l : List Pod) (last : Int) (m : Nat) : liveN (l ++ newPods last m) = liveN l + m := by
  unfold liveN; rw [List.countP_append, newPods_live]; omega
theorem sum_more (l : List Pod) (last : Int) (m : Nat) : sumL (l ++ newPods last m) = sumL l := by
  unfold sumL
  rw [List.map_append, List.sum_append]
  have : ((newPods last m).map (·.load)) = List.replicate m 0 := by
    unfold newPods; rw [List.map_map]
    rw [List.eq_replicate_iff]
    exact ⟨by simp, fun b hb => by obtain ⟨i, _, rfl⟩ := List.mem_map.1 hb; rfl⟩
  rw [this]
  have h0 : ∀ k : Nat, (List.replicate k (0 : Int)).sum = 0 := fun k => by
    induction k with
    | zero => rfl
    | succ k ih => rw [List.replicate_succ, List.sum_cons, ih]; rfl
  rw [h0]; omega
theorem Crewed.more {l : List Pod} {last most : Int} (h : Crewed l last most) (hm : 0 ≤ most) (m : Nat) : Crewed (l ++ newPods last m) (last + m) most := by
  refine ⟨?_, fun p hp => ?_, fun p hp => ?_, fun p hp => ?_, by have := h.last0; omega⟩
  · rw [List.pairwise_append]
    refine ⟨h.up, ?_, fun a ha b hb => ?_⟩
    · unfold newPods
      rw [List.pairwise_map]
      exact List.pairwise_lt_range.imp (fun {a b} hab => by simp only; omega)
    · have := h.ids a ha; have := newPods_mem hb; omega
  all_goals
    rcases List.mem_append.1 hp with c | c
  · have := h.ids p c; omega
  · have := newPods_mem c; have := h.last0; omega
  · exact h.states p c
  · have := newPods_mem c; omega
  · exact h.loads p c
  · have := newPods_mem c; omega
theorem fewerN_succ : ∀ (m : Nat) (l : List Pod), fewerN (m + 1) l = fewerL (fewerN m l)
  | 0, l => rfl
  | m + 1, l => by rw [fewerN, fewerN_succ m (fewerL l)]; rfl
theorem Crewed.fewerN {l : List Pod} {last most : Int} (h : Crewed l last most) : ∀ m : Nat, (m : Int) ≤ liveN l → Crewed (fewerN m l) last most ∧ liveN (fewerN m l) = liveN l - m ∧ sumL (fewerN m l) = sumL l ∧ (Tide.fewerN m l).length ≤ l.length
  | 0, _ => ⟨h, by simp [Tide.fewerN], rfl, Nat.le_refl _⟩
  | m + 1, hm => by
    obtain ⟨h1, h2, h3, h4⟩ := h.fewerN m (by omega)
    have hp : 0 < liveN (Tide.fewerN m l) := by omega
    obtain ⟨h5, h6, h7⟩ := h1.fewer hp
    rw [fewerN_succ]
    exact ⟨h5, by rw [fewer_live h1.states hp, h2]; omega, by rw [h6, h3], Nat.le_trans h7 h4⟩
theorem liveN_nn (l : List Pod) : 0 ≤ liveN l := by unfold liveN; omega
theorem Crewed.scale {l : List Pod} {last most : Int} (h : Crewed l last most) (hm : 0 ≤ most) (n : Int) : Crewed (scaleLst l last n) (scaleLast l last n) most ∧ sumL (scaleLst l last n) = sumL l ∧ (scaleErr n = 0 → liveN (scaleLst l last n) = n) ∧ (scaleLst l last n).length ≤ l.length + 50 ∧ scaleLast l last n ≤ last + 50 := by
  have hn := liveN_nn l
  have h1 := h.more hm (scaleUp l n)
  have hlm := live_more l last (scaleUp l n)
  have hD : (scaleDown l n : Int) ≤ liveN (l ++ newPods last (scaleUp l n)) := by
    rw [hlm]; unfold scaleDown scaleUp; split <;> omega
  obtain ⟨h2, h3, h4, h5⟩ := h1.fewerN (scaleDown l n) hD
  have hU : scaleUp l n ≤ 50 := by unfold scaleUp; split <;> omega
  refine ⟨h2, by unfold scaleLst; rw [h4, sum_more], fun he => ?_, ?_, by unfold scaleLast; omega⟩
  · unfold scaleErr at he
    split at he
    · cases he
    · rename_i hc
      unfold scaleLst
      rw [h3, hlm]
      unfold scaleDown scaleUp
      rw [if_neg hc, if_neg hc]; omega
  · unfold scaleLst
    rw [List.length_append, newPods_length] at h5
    omega
theorem findP_some {l : List Pod} {id : Int} {i : Nat} (h : findP l id = some i) : ∃ p, l[i]? = some p ∧ p.id = id := by
  obtain ⟨p, h1, h2, _⟩ := firstAt_spec h
  exact ⟨p, h1, by unfold podIs at h2; simpa using h2⟩
theorem Crewed.turn {l : List Pod} {last most : Int} (h : Crewed l last most) (id src dst : Int) (hs : src = 1 ∧ dst = 2 ∨ src = 2 ∧ dst = 3) : Crewed (turnLst l id src dst) last most ∧ sumL (turnLst l id src dst) = sumL l ∧ (turnLst l id src dst).length = l.length := by
  unfold turnLst
  cases hf : findP l id with
  | none => exact ⟨h, rfl, rfl⟩
  | some i =>
    obtain ⟨p, hp, _⟩ := findP_some hf
    simp only [hp]
    by_cases c : p.state = src
    · rw [if_pos c]
      have hl := h.loads p (List.mem_of_getElem? hp)
      have h0 : p.load = 0 := by have := hl.2.2.1; omega
      exact ⟨h.set hp rfl ⟨by simp only; omega, by simp only; omega⟩ ⟨hl.1, hl.2.1, fun e => by simp only at e; omega, fun e => by simp only at e; omega⟩, by rw [sum_set hp]; simp only; omega, by simp⟩
    · rw [if_neg c]; exact ⟨h, rfl, rfl⟩
theorem Crewed.crash {l : List Pod} {last most : Int} (h : Crewed l last most) (id : Int) : Crewed (crashLst l id) last most ∧ sumL (crashLst l id) = sumL l - crashNum l id ∧ (crashLst l id).length ≤ l.length := by
  unfold crashLst crashNum
  cases hf : findP l id with
  | none => exact ⟨h, by simp, Nat.le_refl _⟩
  | some i =>
    obtain ⟨p, hp, _⟩ := findP_some hf
    simp only
    exact ⟨h.erase i, by rw [sum_erase hp]; unfold loadAt; rw [hp]; rfl, (List.eraseIdx_sublist l i).length_le⟩
theorem giveAt_some {l : List Pod} {most : Int} {i : Nat} (h : giveAt l most = some i) : ∃ p, l[i]? = some p ∧ p.state = 3 ∧ p.load < most := by
  unfold giveAt at h
  cases hb : best 3 ltLoad l with
  | none => rw [hb] at h; cases h
  | some j =>
    rw [hb] at h
    simp only at h
    obtain ⟨p, hp, hs⟩ := best_at hb
    have hla : loadAt l j = p.load := by unfold loadAt; rw [hp]; rfl
    by_cases c : most ≤ loadAt l j
    · rw [if_pos c] at h; cases h
    · rw [if_neg c] at h; cases h; exact ⟨p, hp, hs, by omega⟩
theorem Crewed.give {l : List Pod} {last most : Int} (h : Crewed l last most) : Crewed (giveLst l most) last most ∧ sumL (giveLst l most) = sumL l + (if giveErr l most = 0 then 1 else 0) ∧ (giveLst l most).length = l.length := by
  unfold giveLst giveErr
  cases hg : giveAt l most with
  | none => exact ⟨h, by simp, rfl⟩
  | some i =>
    obtain ⟨p, hp, hs, hl⟩ := giveAt_some hg
    simp only [hp]
    have h1 := h.loads p (List.mem_of_getElem? hp)
    exact ⟨h.set hp rfl ⟨by simp only; omega, by simp only; omega⟩ ⟨by simp only; omega, by simp only; omega, fun _ => by simp only; omega, fun e => by simp only at e; omega⟩, by rw [sum_set hp]; simp; omega, by simp⟩
theorem Crewed.done {l : List Pod} {last most : Int} (h : Crewed l last most) (id : Int) : Crewed (podDoneLst l id) last most ∧ sumL (podDoneLst l id) = sumL l - (if podDoneErr l id = 0 then 1 else 0) ∧ (podDoneLst l id).length ≤ l.length := by
  unfold podDoneLst podDoneErr
  cases hf : findP l id with
  | none => exact ⟨h, by simp, Nat.le_refl _⟩
  | some i =>
    obtain ⟨p, hp, _⟩ := findP_some hf
    have hla : loadAt l i = p.load := by unfold loadAt; rw [hp]; rfl
    simp only [hp, hla]
    have h1 := h.loads p (List.mem_of_getElem? hp)
    have h2 := h.states p (List.mem_of_getElem? hp)
    by_cases c : p.load = 0
    · rw [if_pos c, if_pos c]; exact ⟨h, by simp, Nat.le_refl _⟩
    · rw [if_neg c, if_neg c]
      by_cases d : p.state = 4 ∧ p.load - 1 = 0
      · rw [if_pos d]
        exact ⟨h.erase i, by rw [sum_erase hp]; simp; omega, (List.eraseIdx_sublist l i).length_le⟩
      · rw [if_neg d]
        refine ⟨h.set hp rfl h2 ⟨by simp only; omega, by simp only; omega, fun _ => by simp only; omega, fun e => by simp only at e ⊢; omega⟩, by rw [sum_set hp]; simp; omega, by simp⟩
theorem Crewed.nil (most : Int) : Crewed [] 0 most := ⟨List.Pairwise.nil, by simp, by simp, by simp, by decide⟩
end Tide
