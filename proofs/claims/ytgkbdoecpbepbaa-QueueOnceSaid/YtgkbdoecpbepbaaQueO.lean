/- The plain law of QueueOnce: who is lent is free, and wasn't done; what is told by the two maps. No program in sight. -/
import Derived.Test.YtgkbdoecpbepbaaQueM
namespace Tide
/-- l: the queue; f: till when each was lent; d: what is done -/
structure Lent (l : List Msg) (f : Int → Int) (d : Int → Bool) (now : Int) : Prop where
  up : Up l
  ids : ∀ m ∈ l, 1 ≤ m.id ∧ m.id ≤ 1000
  nd : ∀ m ∈ l, d m.id = false
  tk : ∀ m ∈ l, m.taken = true → f m.id = m.till
  fr : ∀ m ∈ l, m.taken = false → f m.id ≤ now
theorem back_cases (now : Int) (m : Msg) : (m.taken = true ∧ m.till ≤ now ∧ back now m = ⟨m.id, 0, false⟩) ∨ (back now m = m ∧ (m.taken = true → now < m.till)) := by
  unfold back
  by_cases h1 : m.taken = true
  · by_cases h2 : m.till ≤ now
    · exact .inl ⟨h1, h2, by simp [h1, h2]⟩
    · exact .inr ⟨by simp [h1, h2], fun _ => by omega⟩
  · exact .inr ⟨by simp [h1], fun h => absurd h h1⟩
theorem Lent.back {l : List Msg} {f : Int → Int} {d : Int → Bool} {now now' : Int} (h : Lent l f d now) (hn : now ≤ now') : Lent (backAll now' l) f d now' ∧ ∀ m ∈ backAll now' l, m.taken = true → now' < f m.id := by
  have key : ∀ m ∈ backAll now' l, ∃ a ∈ l, m.id = a.id ∧ ((m.taken = false ∧ f a.id ≤ now') ∨ (m.taken = true ∧ m.till = a.till ∧ a.taken = true ∧ now' < m.till)) := by
    intro m hm
    obtain ⟨a, ha, rfl⟩ := List.mem_map.1 hm
    refine ⟨a, ha, back_id _ _, ?_⟩
    rcases back_cases now' a with ⟨h1, h2, h3⟩ | ⟨h1, h2⟩
    · rw [h3]; exact .inl ⟨rfl, by have := h.tk a ha h1; omega⟩
    · rw [h1]
      cases ht : a.taken
      · exact .inl ⟨rfl, by have := h.fr a ha ht; omega⟩
      · exact .inr ⟨rfl, rfl, rfl, h2 ht⟩
  refine ⟨⟨h.up.backAll now', fun m hm => ?_, fun m hm => ?_, fun m hm ht => ?_, fun m hm ht => ?_⟩, fun m hm ht => ?_⟩
  all_goals obtain ⟨a, ha, e, hc⟩ := key m hm
  · rw [e]; exact h.ids a ha
  · rw [e]; exact h.nd a ha
  · rcases hc with ⟨h1, _⟩ | ⟨_, h2, h3, _⟩
    · rw [h1] at ht; cases ht
    · rw [e, h2]; exact h.tk a ha h3
  · rcases hc with ⟨_, h2⟩ | ⟨h1, _⟩
    · rw [e]; exact h2
    · rw [h1] at ht; cases ht
  · rcases hc with ⟨h1, _⟩ | ⟨_, h2, h3, h4⟩
    · rw [h1] at ht; cases ht
    · rw [e, h.tk a ha h3, ← h2]; exact h4
theorem up_ne {l : List Msg} (h : Up l) {i j : Nat} {a b : Msg} (hi : l[i]? = some a) (hj : l[j]? = some b) (hne : i ≠ j) : a.id ≠ b.id := by
  unfold Up at h
  rw [List.pairwise_iff_getElem] at h
  obtain ⟨h1, e1⟩ := List.getElem?_eq_some_iff.1 hi
  obtain ⟨h2, e2⟩ := List.getElem?_eq_some_iff.1 hj
  rcases Nat.lt_or_gt_of_ne hne with c | c
  · have := h i j h1 h2 c; rw [e1, e2] at this; omega
  · have := h j i h2 h1 c; rw [e1, e2] at this; omega
theorem modify_mem {l : List Msg} {i : Nat} {g : Msg → Msg} {m x : Msg} (hi : l[i]? = some m) (hx : x ∈ l.modify i g) : x = g m ∨ ∃ k, l[k]? = some x ∧ k ≠ i := by
  obtain ⟨k, hk⟩ := List.mem_iff_getElem?.1 hx
  rw [List.getElem?_modify] at hk
  by_cases e : i = k
  · subst e; rw [hi] at hk; simp at hk; exact .inl hk.symm
  · simp [e] at hk; exact .inr ⟨k, hk, fun c => e c.symm⟩
/-- behind a loan -/
theorem Lent.lend {l : List Msg} {f : Int → Int} {d : Int → Bool} {now ticks : Int} (h : Lent l f d now) {i : Nat} {m : Msg} (hi : l[i]? = some m) : Lent (l.modify i (lend now ticks)) (fun j => if j = m.id then now + ticks else f j) d now := by
  have hm := List.mem_of_getElem? hi
  refine ⟨?_, fun x hx => ?_, fun x hx => ?_, fun x hx ht => ?_, fun x hx ht => ?_⟩
  · have e : (l.modify i (Tide.lend now ticks)).map (·.id) = l.map (·.id) := by
      apply List.ext_getElem?
      intro k
      rw [List.getElem?_map, List.getElem?_map, List.getElem?_modify]
      by_cases c : i = k
      · subst c; rw [hi]; simp [Tide.lend]
      · cases l[k]? <;> simp [c]
    have hu : (l.map (·.id)).Pairwise (· < ·) := by rw [List.pairwise_map]; exact h.up
    rw [← e, List.pairwise_map] at hu
    exact hu
  · rcases modify_mem hi hx with c | ⟨k, hk, _⟩
    · rw [c]; exact h.ids m hm
    · exact h.ids x (List.mem_of_getElem? hk)
  · rcases modify_mem hi hx with c | ⟨k, hk, _⟩
    · rw [c]; exact h.nd m hm
    · exact h.nd x (List.mem_of_getElem? hk)
  · rcases modify_mem hi hx with c | ⟨k, hk, hne⟩
    · rw [c]; show (if m.id = m.id then _ else _) = now + ticks; rw [if_pos rfl]
    · have := up_ne h.up hk hi hne
      show (if x.id = m.id then _ else _) = _
      rw [if_neg this]; exact h.tk x (List.mem_of_getElem? hk) ht
  · rcases modify_mem hi hx with c | ⟨k, hk, hne⟩
    · rw [c] at ht; cases ht
    · have := up_ne h.up hk hi hne
      show (if x.id = m.id then _ else _) ≤ now
      rw [if_neg this]; exact h.fr x (List.mem_of_getElem? hk) ht
/-- behind an Ack -/
theorem Lent.ack {l : List Msg} {f : Int → Int} {d : Int → Bool} {now : Int} (h : Lent l f d now) {i : Nat} {m : Msg} (hi : l[i]? = some m) : Lent (l.eraseIdx i) (fun j => if j = m.id then 0 else f j) (fun j => if j = m.id then true else d j) now := by
  have key : ∀ x ∈ l.eraseIdx i, x ∈ l ∧ x.id ≠ m.id := fun x hx => by
    obtain ⟨k, hk⟩ := List.mem_iff_getElem?.1 hx
    rw [List.getElem?_eraseIdx] at hk
    split at hk
    · exact ⟨List.mem_of_getElem? hk, up_ne h.up hk hi (by omega)⟩
    · exact ⟨List.mem_of_getElem? hk, up_ne h.up hk hi (by omega)⟩
  refine ⟨h.up.sublist (List.eraseIdx_sublist l i), fun x hx => h.ids x (key x hx).1, fun x hx => ?_, fun x hx ht => ?_, fun x hx ht => ?_⟩
  all_goals obtain ⟨h1, h2⟩ := key x hx
  · show (if x.id = m.id then true else d x.id) = false
    rw [if_neg h2]; exact h.nd x h1
  · show (if x.id = m.id then 0 else f x.id) = _
    rw [if_neg h2]; exact h.tk x h1 ht
  · show (if x.id = m.id then 0 else f x.id) ≤ now
    rw [if_neg h2]; exact h.fr x h1 ht
/-- what is lent longer than now comes not back -/
theorem back_same {l : List Msg} {now : Int} (h : ∀ m ∈ l, m.taken = true → now < m.till) : backAll now l = l := by
  unfold backAll
  rw [List.map_congr_left (g := id) fun m hm => ?_, List.map_id]
  unfold back
  by_cases c : m.taken = true
  · have := h m hm c
    rw [if_neg (by simp; intro _; omega)]; rfl
  · rw [if_neg (by simp [c])]; rfl
theorem id_at {l : List Msg} (h : Up l) {i : Nat} {m : Msg} (hi : l[i]? = some m) : firstAt (isId m.id) l = some i :=
  firstAt_some (fun k b hk hb => by have := up_ne h hb hi (by omega); unfold isId; simpa using this) hi (by unfold isId; simp)
theorem id_gone {l : List Msg} (h : Up l) {i : Nat} {m : Msg} (hi : l[i]? = some m) : firstAt (isId m.id) (l.eraseIdx i) = none :=
  firstAt_none fun k a hk => by
    rw [List.getElem?_eraseIdx] at hk
    unfold isId
    split at hk
    · have := up_ne h hk hi (by omega); simpa using this
    · have := up_ne h hk hi (by omega); simpa using this
/-- a round of QueueOnce: what a loan gives -/
theorem once_none {l : List Msg} {f : Int → Int} {d : Int → Bool} {now now' : Int} (h : Lent l f d now) (hn : now ≤ now') (hf : firstAt free (backAll now' l) = none) : ((backAll now' l).map (·.id)).Nodup ∧ (∀ k ∈ (backAll now' l).map (·.id), now' < f k) ∧ ((backAll now' l).map (·.id)).length = l.length := by
  obtain ⟨h1, h2⟩ := h.back hn
  refine ⟨?_, fun k hk => ?_, by simp [backAll]⟩
  · unfold List.Nodup
    rw [List.pairwise_map]
    exact h1.up.imp fun {a b} hab => by omega
  · obtain ⟨m, hm, rfl⟩ := List.mem_map.1 hk
    obtain ⟨k, hk⟩ := List.mem_iff_getElem?.1 hm
    have := firstAt_miss hf k m hk
    exact h2 m hm (by unfold free at this; simpa using this)
theorem once_some {l : List Msg} {f : Int → Int} {d : Int → Bool} {now now' : Int} (h : Lent l f d now) (hn : now ≤ now') {i : Nat} (hf : firstAt free (backAll now' l) = some i) : ∃ m, (backAll now' l)[i]? = some m ∧ m.taken = false ∧ d m.id = false ∧ f m.id ≤ now' ∧ 1 ≤ m.id ∧ m.id ≤ 1000 := by
  obtain ⟨h1, h2⟩ := h.back hn
  obtain ⟨m, hm, hp, _⟩ := firstAt_spec hf
  have ht : m.taken = false := by unfold free at hp; simpa using hp
  have hmem := List.mem_of_getElem? hm
  exact ⟨m, hm, ht, h1.nd m hmem, h1.fr m hmem ht, h1.ids m hmem⟩
/-- nothing of what was lent comes back at the very time -/
theorem once_still {l : List Msg} {f : Int → Int} {d : Int → Bool} {now now' ticks : Int} (h : Lent l f d now) (hn : now ≤ now') (ht : 1 ≤ ticks) {i : Nat} {m : Msg} (hm : (backAll now' l)[i]? = some m) : backAll now' ((backAll now' l).modify i (Tide.lend now' ticks)) = (backAll now' l).modify i (Tide.lend now' ticks) := by
  obtain ⟨h1, h2⟩ := h.back hn
  refine back_same fun x hx hxt => ?_
  rcases modify_mem hm hx with c | ⟨k, hk, _⟩
  · rw [c]; show now' < now' + ticks; omega
  · have hmem := List.mem_of_getElem? hk
    have := h2 x hmem hxt
    rw [h1.tk x hmem hxt] at this
    exact this
end Tide
