/- What happens in a world, step by step; each request's way; what pods have to do. -/
import Derived.Test.YtlfaogkdghnmcaaGreatWldN
set_option linter.unusedVariables false
set_option linter.unusedSimpArgs false
namespace Tide
theorem scale_inv {l : List Pod} {last most : Int} (P : List Pod → Prop) (h : Crewed l last most) (hm : 0 ≤ most) (n : Int) (h0 : P (l ++ newPods last (scaleUp l n)))
    (he : ∀ (f : List Pod) (la : Int) (i : Nat) (p : Pod), Crewed f la most → P f → f[i]? = some p → p.load = 0 → P (f.eraseIdx i)) (hd : ∀ (f : List Pod) (la : Int) (i : Nat) (p : Pod), Crewed f la most → P f → f[i]? = some p → p.state = 3 → P (f.set i { p with state := 4 })) : P (scaleLst l last n) := by
  have key : ∀ (m : Nat) (f : List Pod) (la : Int), Crewed f la most → (m : Int) ≤ liveN f → P f → P (thinN m f) := by
    intro m
    induction m with
    | zero => intro f la _ _ hp; exact hp
    | succ m ih =>
      intro f la hc hl hp
      have hpos : 0 < liveN f := by omega
      obtain ⟨c1, _, _⟩ := hc.fewer hpos
      have hlv := fewer_live hc.states hpos
      refine ih (fewerL f) la c1 (by omega) ?_
      obtain ⟨i, p, h1, _, h3, h4⟩ := fewer_cases hc.states hpos
      rcases h4 with ⟨e, h4⟩ | ⟨e, h4, _⟩
      · rw [e]
        refine he f la i p hc hp h1 ?_
        have := hc.loads p (List.mem_of_getElem? h1)
        by_cases c : p.state = 3
        · exact h4 c
        · have := this.2.2.1; omega
      · rw [e]; exact hd f la i p hc hp h1 h4
  have h1 := h.more hm (scaleUp l n)
  have h2 := live_more l last (scaleUp l n)
  have h3 := liveN_nn l
  refine key _ _ _ h1 ?_ h0
  rw [h2]
  unfold scaleUp scaleDown
  by_cases c : n < 0 ∨ 50 < n
  · rw [if_pos c, if_pos c]; omega
  · rw [if_neg c, if_neg c]; omega
end Tide
namespace Go.Proofs.YtlfaogkdghnmcaaGreat
open Go.RowKit
theorem doW_elim {m : Wo} {k a n : Int} (P : Wo → Prop) (h0 : P m) (h1 : k = 1 → tickE m n = 0 → P (ticksN n.toNat m)) (h2 : k = 2 → P { m with t := makeLst m.t a n }) (h3 : k = 3 → P { m with t := takeLst m.t a n })
    (h4 : k = 4 → P { m with q := Tide.putLst m.q m.ql n, ql := Tide.putLast m.q m.ql n }) (h5 : k = 5 → P { m with q := Tide.leaseLst m.q m.now n }) (h6 : k = 6 → P { m with q := Tide.ackLst m.q m.now n }) (h7 : k = 7 → failE m a n = 0 → P { m with fails := m.fails.set a.toNat (n == 1) })
    (h8 : k = 8 → P { m with f := Tide.turnLst m.f n 1 2 }) (h9 : k = 9 → Tide.turnErr m.f n 2 = 0 → P ({ m with f := Tide.turnLst m.f n 2 3 } : Wo).on) (h10 : k = 10 → Tide.crashErr m.f n = 0 → P ({ m with f := Tide.crashLst m.f n, b := Tide.lostLst m.b n } : Wo).on)
    (h11 : k = 11 → Tide.askErr m.b m.now a n = 0 → P ({ m with b := Tide.askLst m.b m.now a n } : Wo).on) (h12 : k = 12 → Tide.doneErr m.b n = 0 → P (doneW m n).on) (h13 : k = 13 → P { m with l := pauseL m.l n }) : P (doW m k a n) := by
  unfold doW
  by_cases k1 : k = 1
  · rw [if_pos k1]
    by_cases c : tickE m n = 0
    · rw [if_pos c]; exact h1 k1 c
    · rw [if_neg c]; exact h0
  rw [if_neg k1]
  by_cases k2 : k = 2
  · rw [if_pos k2]; exact h2 k2
  rw [if_neg k2]
  by_cases k3 : k = 3
  · rw [if_pos k3]; exact h3 k3
  rw [if_neg k3]
  by_cases k4 : k = 4
  · rw [if_pos k4]; exact h4 k4
  rw [if_neg k4]
  by_cases k5 : k = 5
  · rw [if_pos k5]; exact h5 k5
  rw [if_neg k5]
  by_cases k6 : k = 6
  · rw [if_pos k6]; exact h6 k6
  rw [if_neg k6]
  by_cases k7 : k = 7
  · rw [if_pos k7]
    by_cases c : failE m a n = 0
    · rw [if_pos c]; exact h7 k7 c
    · rw [if_neg c]; exact h0
  rw [if_neg k7]
  by_cases k8 : k = 8
  · rw [if_pos k8]; exact h8 k8
  rw [if_neg k8]
  by_cases k9 : k = 9
  · rw [if_pos k9]
    by_cases c : Tide.turnErr m.f n 2 = 0
    · rw [if_pos c]; exact h9 k9 c
    · rw [if_neg c]; exact h0
  rw [if_neg k9]
  by_cases k10 : k = 10
  · rw [if_pos k10]
    by_cases c : Tide.crashErr m.f n = 0
    · rw [if_pos c]; exact h10 k10 c
    · rw [if_neg c]; exact h0
  rw [if_neg k10]
  by_cases k11 : k = 11
  · rw [if_pos k11]
    by_cases c : Tide.askErr m.b m.now a n = 0
    · rw [if_pos c]; exact h11 k11 c
    · rw [if_neg c]; exact h0
  rw [if_neg k11]
  by_cases k12 : k = 12
  · rw [if_pos k12]
    by_cases c : Tide.doneErr m.b n = 0
    · rw [if_pos c]; exact h12 k12 c
    · rw [if_neg c]; exact h0
  rw [if_neg k12]
  by_cases k13 : k = 13
  · rw [if_pos k13]; exact h13 k13
  rw [if_neg k13]; exact h0
/-- requests, pods, the last pod's number, the clock -/
structure Bp where
  b : List Tide.Req
  f : List Tide.Pod
  fl : Int
  now : Int
def Wo.bp (m : Wo) : Bp := ⟨m.b, m.f, m.fl, m.now⟩
/-- one step -/
inductive El (most : Int) : Bp → Bp → Prop
  | ask (b : List Tide.Req) (f : List Tide.Pod) (fl now s n : Int) (h : Tide.askErr b now s n = 0) : El most ⟨b, f, fl, now⟩ ⟨Tide.askLst b now s n, f, fl, now⟩
  | late (b : List Tide.Req) (f : List Tide.Pod) (fl now : Int) (h0 : 0 ≤ now) (h1 : now < 1099511627776) : El most ⟨b, f, fl, now⟩ ⟨Tide.lateLst b (now + 1), f, fl, now + 1⟩
  | run (b : List Tide.Req) (f : List Tide.Pod) (fl now : Int) (h : onGoes most b f = true) : El most ⟨b, f, fl, now⟩ ⟨Tide.runLst b (Tide.nextN b) (Tide.giveNum f most), Tide.giveLst f most, fl, now⟩
  | done (b : List Tide.Req) (f : List Tide.Pod) (fl now n : Int) (h : Tide.doneErr b n = 0) : El most ⟨b, f, fl, now⟩ ⟨Tide.doneLst b n, Tide.podDoneLst f (Tide.doneNum b n), fl, now⟩
  | crash (b : List Tide.Req) (f : List Tide.Pod) (fl now n : Int) (h : Tide.crashErr f n = 0) : El most ⟨b, f, fl, now⟩ ⟨Tide.lostLst b n, Tide.crashLst f n, fl, now⟩
  | turn (b : List Tide.Req) (f : List Tide.Pod) (fl now n src dst : Int) (h : src = 1 ∧ dst = 2 ∨ src = 2 ∧ dst = 3) : El most ⟨b, f, fl, now⟩ ⟨b, Tide.turnLst f n src dst, fl, now⟩
  | scale (b : List Tide.Req) (f : List Tide.Pod) (fl now n : Int) : El most ⟨b, f, fl, now⟩ ⟨b, Tide.scaleLst f fl n, Tide.scaleLast f fl n, now⟩
inductive Els (most : Int) (x : Bp) : Bp → Prop
  | refl : Els most x x
  | step {y z : Bp} (h : Els most x y) (k : El most y z) : Els most x z
theorem Els.trans {most : Int} {x y z : Bp} (h : Els most x y) (k : Els most y z) : Els most x z := by
  induction k with
  | refl => exact h
  | step _ k ih => exact ih.step k
section
variable {m : Wo} {j : Nat}
theorem els_on (m : Wo) : Els m.most m.bp m.on.bp :=
  onN_inv (most := m.most) (fun b f => Els m.most m.bp ⟨b, f, m.fl, m.now⟩) (fun b f hP hg => hP.step (.run b f m.fl m.now hg)) m.b.length m.b m.f .refl
theorem els_tick (h : m.ok j) (hn : m.now < 1099511627776) : Els m.most m.bp m.tick.bp := by
  have h1 : Els m.most m.bp m.late.bp := Els.refl.step (.late m.b m.f m.fl m.now h.now0 hn)
  have h2 : Els m.most m.late.bp m.late.seen.bp := by
    unfold Wo.seen; split
    · exact Els.refl.step (.scale _ _ _ _ _)
    · exact .refl
  have h3 : m.late.seen.most = m.most := by unfold Wo.seen; split <;> rfl
  have h4 := els_on m.late.seen
  rw [h3] at h4
  exact (h1.trans h2).trans h4
theorem tick_most (m : Wo) : m.tick.most = m.most := by show m.late.seen.most = m.most; unfold Wo.seen; split <;> rfl
theorem ticks_most (n : Nat) (m : Wo) : (ticksN n m).most = m.most := by
  induction n with
  | zero => rfl
  | succ n ih => show (ticksN n m).tick.most = _; rw [tick_most, ih]
theorem els_ticks (h : m.ok j) : ∀ n : Nat, m.now + n ≤ 1099511627776 → Els m.most m.bp (ticksN n m).bp
  | 0, _ => .refl
  | n + 1, hn => by
    have h1 := els_ticks h n (by omega)
    have h2 := els_tick (ok_ticks h n (by omega)) (by rw [ticks_now]; omega)
    rw [ticks_most] at h2
    exact h1.trans h2
theorem els_do (h : m.ok j) (k a n : Int) : Els m.most m.bp (doW m k a n).bp :=
  doW_elim (fun x => Els m.most m.bp x.bp) .refl (fun _ he => by obtain ⟨h1, h2, h3⟩ := tickE_ok he; exact els_ticks h n.toNat (by omega)) (fun _ => .refl) (fun _ => .refl) (fun _ => .refl) (fun _ => .refl) (fun _ => .refl) (fun _ _ => .refl)
    (fun _ => Els.refl.step (.turn _ _ _ _ _ _ _ (.inl ⟨rfl, rfl⟩)))
    (fun _ _ => Els.trans (Els.refl.step (.turn _ _ _ _ n 2 3 (.inr ⟨rfl, rfl⟩))) (els_on { m with f := Tide.turnLst m.f n 2 3 }))
    (fun _ he => Els.trans (Els.refl.step (.crash _ _ _ _ n he)) (els_on { m with f := Tide.crashLst m.f n, b := Tide.lostLst m.b n }))
    (fun _ he => Els.trans (Els.refl.step (.ask _ _ _ _ a n he)) (els_on { m with b := Tide.askLst m.b m.now a n }))
    (fun _ he => Els.trans (Els.refl.step (.done _ _ _ _ n he)) (els_on (doneW m n))) (fun _ => .refl)
theorem do_most (m : Wo) (k a n : Int) : (doW m k a n).most = m.most :=
  doW_elim (fun x => x.most = m.most) rfl (fun _ _ => ticks_most _ _) (fun _ => rfl) (fun _ => rfl) (fun _ => rfl) (fun _ => rfl) (fun _ => rfl) (fun _ _ => rfl) (fun _ => rfl) (fun _ _ => rfl) (fun _ _ => rfl) (fun _ _ => rfl) (fun _ _ => rfl) (fun _ => rfl)
/-- what is kept by each step is kept -/
theorem els_inv {most : Int} (hm : 0 ≤ most) (P : Bp → Prop) (hs : ∀ x y, Tide.Fair x.b → Tide.Crewed x.f x.fl most → P x → El most x y → P y) {x y : Bp} (h : Els most x y) (h1 : Tide.Fair x.b) (h2 : Tide.Crewed x.f x.fl most) (h3 : P x) : Tide.Fair y.b ∧ Tide.Crewed y.f y.fl most ∧ P y := by
  induction h with
  | refl => exact ⟨h1, h2, h3⟩
  | step _ k ih =>
    obtain ⟨i1, i2, i3⟩ := ih
    refine ⟨?_, ?_, hs _ _ i1 i2 i3 k⟩
    · cases k with
      | ask b f fl now s n h => exact (Tide.fair_ask i1 _ _ _).1
      | late b f fl now _ _ => exact (Tide.fair_late i1 _).1
      | run b f fl now h => exact (Tide.fair_run i1 _ _).1
      | done b f fl now n h => exact (Tide.fair_done i1 _).1
      | crash b f fl now n h => exact (Tide.fair_lost i1 _).1
      | turn b f fl now n src dst h => exact i1
      | scale b f fl now n => exact i1
    · cases k with
      | ask b f fl now s n h => exact i2
      | late b f fl now _ _ => exact i2
      | run b f fl now h => exact i2.give.1
      | done b f fl now n h => exact (i2.done _).1
      | crash b f fl now n h => exact (i2.crash _).1
      | turn b f fl now n src dst h => exact (i2.turn _ _ _ h).1
      | scale b f fl now n => exact (i2.scale hm _).1
theorem do_inv (P : Bp → Prop) (hs : ∀ x y, Tide.Fair x.b → Tide.Crewed x.f x.fl m.most → P x → El m.most x y → P y) (h : m.ok j) (hp : P m.bp) (k a n : Int) : P (doW m k a n).bp :=
  (els_inv (by have := h.most0; omega) P hs (els_do h k a n) h.fair h.crew hp).2.2
end
/-! TopLate -/
theorem give_ok {f : List Tide.Pod} {most : Int} (h : Tide.giveErr f most = 0) : ∃ (i : Nat) (p : Tide.Pod), f[i]? = some p ∧ Tide.giveNum f most = p.id ∧ p.state = 3 ∧ p.load < most ∧ Tide.giveLst f most = f.set i { p with load := p.load + 1 } := by
  unfold Tide.giveErr at h
  unfold Tide.giveNum Tide.giveLst
  cases hg : Tide.giveAt f most with
  | none => rw [hg] at h; cases h
  | some i =>
    obtain ⟨p, hp, hs, hl⟩ := Tide.giveAt_some hg
    exact ⟨i, p, hp, by simp [hp], hs, hl, by simp [hp]⟩
theorem goes_two {most : Int} {b : List Tide.Req} {f : List Tide.Pod} (h : onGoes most b f = true) : 0 < Tide.nextN b ∧ Tide.giveErr f most = 0 := by
  unfold onGoes at h; rw [Bool.and_eq_true] at h; exact ⟨by simpa using h.1, by simpa using h.2⟩
def LateOk (now : Int) (r : Tide.Req) : Prop := (r.fate = 1 → r.pod = 0 ∧ now < r.till) ∧ (r.fate = 4 → r.pod = 0 ∧ r.till ≤ now) ∧ (r.fate = 2 ∨ r.fate = 3 ∨ r.fate = 5 → r.pod ≠ 0)
theorem lateOk_step {most : Int} (x y : Bp) (h1 : Tide.Fair x.b) (h2 : Tide.Crewed x.f x.fl most) (hP : ∀ r ∈ x.b, LateOk x.now r) (k : El most x y) : ∀ r ∈ y.b, LateOk y.now r := by
  cases k with
  | ask b f fl now s n h =>
    intro r hr
    simp only at hr hP ⊢
    unfold Tide.askLst at hr
    rw [if_pos h, List.mem_append] at hr
    rcases hr with hr | hr
    · exact hP r hr
    · simp at hr; subst hr
      unfold Tide.askErr at h
      split at h
      · cases h
      · exact ⟨fun _ => ⟨rfl, by simp only; omega⟩, fun e => by simp at e, fun e => by simp at e⟩
  | late b f fl now t0 t1 =>
    intro r hr
    simp only at hr hP ⊢
    unfold Tide.lateLst at hr
    rw [if_pos (show Tide.timeOk (now + 1) = true by unfold Tide.timeOk; simp; omega), List.mem_map] at hr
    obtain ⟨q, hq, rfl⟩ := hr
    obtain ⟨a1, a2, a3⟩ := hP q hq
    unfold Tide.setF Tide.isLate
    by_cases c : (q.fate == 1 && decide (q.till ≤ now + 1)) = true
    · rw [if_pos c]
      rw [Bool.and_eq_true] at c
      obtain ⟨c1, c2⟩ := c
      have e1 := a1 (by simpa using c1)
      exact ⟨fun e => by simp at e, fun _ => ⟨e1.1, by simpa using c2⟩, fun e => by simp at e⟩
    · rw [if_neg c]
      refine ⟨fun e => ⟨(a1 e).1, ?_⟩, fun e => ⟨(a2 e).1, by have := (a2 e).2; omega⟩, a3⟩
      have : ¬ q.till ≤ now + 1 := fun hle => c (by simp [e, hle])
      omega
  | run b f fl now h =>
    intro r hr
    simp only at hr hP ⊢
    obtain ⟨g1, g2⟩ := goes_two h
    obtain ⟨i, p, hp, hid, _⟩ := give_ok g2
    obtain ⟨jj, q, e1, _, e3, _, _, _, e4⟩ := Tide.run_next h1.num g1 (Tide.giveNum f most)
    rw [e4] at hr
    rcases List.mem_or_eq_of_mem_set hr with hr | rfl
    · exact hP r hr
    · have := (h2.ids p (List.mem_of_getElem? hp)).1
      exact ⟨fun e => by simp at e, fun e => by simp at e, fun _ => by simp only; omega⟩
  | done b f fl now n h =>
    intro r hr
    simp only at hr hP ⊢
    unfold Tide.doneLst at hr
    split at hr
    · exact hP r hr
    · rename_i q hq
      have hm := hP q (List.mem_of_getElem? (Tide.reqAt_get hq))
      split at hr
      · rename_i h2f
        rcases List.mem_or_eq_of_mem_set hr with hr | rfl
        · exact hP r hr
        · exact ⟨fun e => by simp at e, fun e => by simp at e, fun _ => hm.2.2 (.inl h2f)⟩
      · exact hP r hr
  | crash b f fl now n h =>
    intro r hr
    simp only at hr hP ⊢
    unfold Tide.lostLst at hr
    rw [List.mem_map] at hr
    obtain ⟨q, hq, rfl⟩ := hr
    have hm := hP q hq
    unfold Tide.setF Tide.isLost
    by_cases c : (q.fate == 2 && q.pod == n) = true
    · rw [if_pos c]
      rw [Bool.and_eq_true] at c
      exact ⟨fun e => by simp at e, fun e => by simp at e, fun _ => hm.2.2 (.inl (by simpa using c.1))⟩
    · rw [if_neg c]; exact hm
  | turn b f fl now n src dst h => exact hP
  | scale b f fl now n => exact hP
theorem lateOk_do {m : Wo} {j : Nat} (h : m.ok j) (hP : ∀ r ∈ m.b, LateOk m.now r) (k a n : Int) : ∀ r ∈ (doW m k a n).b, LateOk (doW m k a n).now r :=
  do_inv (fun x => ∀ r ∈ x.b, LateOk x.now r) (fun x y => lateOk_step x y) h hP k a n
/-! TopOnce -/
/-- how a request may have gone on: its pod is kept, and its end -/
def Once (a r : Tide.Req) : Prop := r.id = a.id ∧ r.source = a.source ∧ (a.pod = 0 ∨ r.pod = a.pod) ∧ (3 ≤ a.fate → r.fate = a.fate)
def Onces (l l' : List Tide.Req) : Prop := l.length ≤ l'.length ∧ ∀ (k : Nat) (a : Tide.Req), l[k]? = some a → ∃ r, l'[k]? = some r ∧ Once a r
theorem Once.refl (a : Tide.Req) : Once a a := ⟨rfl, rfl, .inr rfl, fun _ => rfl⟩
theorem Onces.refl (l : List Tide.Req) : Onces l l := ⟨Nat.le_refl _, fun k a h => ⟨a, h, Once.refl a⟩⟩
theorem Onces.trans {l l' l'' : List Tide.Req} (h : Onces l l') (k : Onces l' l'') : Onces l l'' := ⟨Nat.le_trans h.1 k.1, fun i a ha => by
  obtain ⟨r, h1, h2, h3, h4, h5⟩ := h.2 i a ha
  obtain ⟨q, k1, k2, k3, k4, k5⟩ := k.2 i r h1
  refine ⟨q, k1, k2.trans h2, k3.trans h3, ?_, fun e => (k5 (by rw [h5 e]; exact e)).trans (h5 e)⟩
  rcases h4 with h4 | h4
  · exact .inl h4
  · rcases k4 with k4 | k4
    · left; omega
    · right; omega⟩
theorem onces_set {l : List Tide.Req} {k : Nat} {r q : Tide.Req} (hr : l[k]? = some r) (h : Once r q) : Onces l (l.set k q) := ⟨by simp, fun i a ha => by
  by_cases e : i = k
  · subst e; rw [hr] at ha; cases ha
    exact ⟨q, by rw [List.getElem?_set_self (Tide.get_lt hr)], h⟩
  · exact ⟨a, by rw [List.getElem?_set_ne (Ne.symm e)]; exact ha, Once.refl a⟩⟩
theorem onces_map {l : List Tide.Req} (p : Tide.Req → Bool) (f : Int) (h : ∀ r, p r = true → r.fate < 3) : Onces l (l.map (Tide.setF p f)) := ⟨by simp, fun i a ha => ⟨_, by rw [List.getElem?_map, ha]; rfl, by
  unfold Tide.setF
  split
  · rename_i hp; exact ⟨rfl, rfl, .inr rfl, fun e => by have := h a hp; omega⟩
  · exact Once.refl a⟩⟩
theorem onces_step {most : Int} (x y : Bp) (h1 : Tide.Fair x.b) (hl : ∀ r ∈ x.b, LateOk x.now r) (k : El most x y) : Onces x.b y.b := by
  cases k with
  | ask b f fl now s n h =>
    show Onces b (Tide.askLst b now s n)
    unfold Tide.askLst
    rw [if_pos h]
    exact ⟨by simp, fun i a ha => ⟨a, by rw [List.getElem?_append_left (Tide.get_lt ha)]; exact ha, Once.refl a⟩⟩
  | late b f fl now t0 t1 =>
    show Onces b (Tide.lateLst b (now + 1))
    unfold Tide.lateLst
    split
    · exact onces_map _ _ fun r hr => by unfold Tide.isLate at hr; rw [Bool.and_eq_true] at hr; have : r.fate = 1 := by simpa using hr.1
                                         omega
    · exact Onces.refl _
  | run b f fl now h =>
    obtain ⟨g1, g2⟩ := goes_two h
    obtain ⟨jj, q, e1, _, e3, _, _, _, e4⟩ := Tide.run_next h1.num g1 (Tide.giveNum f most)
    show Onces b (Tide.runLst b _ _)
    rw [e4]
    exact onces_set e1 ⟨rfl, rfl, .inl ((hl q (List.mem_of_getElem? e1)).1 e3).1, fun e => by omega⟩
  | done b f fl now n h =>
    show Onces b (Tide.doneLst b n)
    unfold Tide.doneLst
    split
    · exact Onces.refl _
    · rename_i q hq
      split
      · rename_i h2; exact onces_set (Tide.reqAt_get hq) ⟨rfl, rfl, .inr rfl, fun e => by omega⟩
      · exact Onces.refl _
  | crash b f fl now n h =>
    show Onces b (Tide.lostLst b n)
    exact onces_map _ _ fun r hr => by unfold Tide.isLost at hr; rw [Bool.and_eq_true] at hr; have : r.fate = 2 := by simpa using hr.1
                                       omega
  | turn b f fl now n src dst h => exact Onces.refl _
  | scale b f fl now n => exact Onces.refl _
/-- who ran has nobody of its source ahead of it that waits or runs -/
def Led (l : List Tide.Req) : Prop := ∀ (i : Nat) (r : Tide.Req), l[i]? = some r → r.fate ≠ 1 → r.fate ≠ 4 → ∀ (k : Nat) (x : Tide.Req), k < i → l[k]? = some x → x.source = r.source → x.fate ≠ 1 ∧ x.fate ≠ 2
theorem led_of {l l' : List Tide.Req} (h : Led l) (hn : l'.length = l.length) (hs : ∀ (k : Nat) (r' : Tide.Req), l'[k]? = some r' → ∃ r, l[k]? = some r ∧ r'.source = r.source ∧ ((r'.fate ≠ 1 ∧ r'.fate ≠ 4) → (r.fate ≠ 1 ∧ r.fate ≠ 4)) ∧ ((r.fate ≠ 1 ∧ r.fate ≠ 2) → (r'.fate ≠ 1 ∧ r'.fate ≠ 2))) : Led l' := by
  intro i r' hr' f1 f4 k x' hk hx' hsrc
  obtain ⟨r, a1, a2, a3, _⟩ := hs i r' hr'
  obtain ⟨x, b1, b2, _, b4⟩ := hs k x' hx'
  obtain ⟨c1, c2⟩ := a3 ⟨f1, f4⟩
  exact b4 (h i r a1 c1 c2 k x hk b1 (by rw [← b2, ← a2]; exact hsrc))
theorem led_map {l : List Tide.Req} (h : Led l) (p : Tide.Req → Bool) (f : Int) (h1 : ∀ r, p r = true → f ≠ 4 → r.fate = 2) (hf : f ≠ 1 ∧ f ≠ 2) : Led (l.map (Tide.setF p f)) := led_of h (by simp) fun k r' hk => by
  rw [List.getElem?_map] at hk
  obtain ⟨r, e1, rfl⟩ := Option.map_eq_some_iff.1 hk
  refine ⟨r, e1, ?_⟩
  unfold Tide.setF
  split
  · rename_i hp
    exact ⟨rfl, fun e => by have := h1 r hp e.2; omega, fun _ => hf⟩
  · exact ⟨rfl, id, id⟩
theorem count_zero {l : List Tide.Req} {s : Int} (h : Tide.countF s 2 l = 0) {k : Nat} {x : Tide.Req} (hx : l[k]? = some x) (hs : x.source = s) : x.fate ≠ 2 := by
  intro e
  have hm : x ∈ l := List.mem_of_getElem? hx
  have hp : 0 < l.countP (Tide.hasF s 2) := List.countP_pos_iff.2 ⟨x, hm, by unfold Tide.hasF; simp [e, hs]⟩
  unfold Tide.countF at h; omega
theorem led_step {most : Int} (x y : Bp) (h1 : Tide.Fair x.b) (hP : Led x.b) (k : El most x y) : Led y.b := by
  cases k with
  | ask b f fl now s n h =>
    show Led (Tide.askLst b now s n)
    unfold Tide.askLst
    rw [if_pos h]
    intro i r hr f1 f4 k z hk hz hs
    rcases Nat.lt_or_ge i b.length with c | c
    · rw [List.getElem?_append_left c] at hr
      rw [List.getElem?_append_left (by omega)] at hz
      exact hP i r hr f1 f4 k z hk hz hs
    · rw [List.getElem?_append_right c] at hr
      rcases hi : i - b.length with _ | d
      · rw [hi] at hr; simp at hr; subst hr; exact absurd rfl f1
      · rw [hi] at hr; simp at hr
  | late b f fl now t0 t1 =>
    show Led (Tide.lateLst b (now + 1))
    unfold Tide.lateLst
    split
    · exact led_map hP _ _ (fun r _ e => absurd rfl e) ⟨by omega, by omega⟩
    · exact hP
  | run b f fl now h =>
    obtain ⟨g1, g2⟩ := goes_two h
    obtain ⟨jj, q, e1, e2, e3, e5, e6, _, e4⟩ := Tide.run_next h1.num g1 (Tide.giveNum f most)
    have hfree := (Tide.firstN_is h1.num e1).1 (by rw [e6]; exact e2)
    rw [Bool.and_eq_true] at hfree
    have hno : (b.take jj).any (Tide.waitsOf q.source) = false := by simpa using hfree.2
    rw [List.any_eq_false] at hno
    show Led (Tide.runLst b _ _)
    rw [e4]
    intro i r hr f1 f4 k z hk hz hs
    have hz2 : b[k]? = some z ∧ k ≠ jj ∨ (k = jj ∧ z = { q with fate := 2, pod := Tide.giveNum f most }) := by
      rcases Tide.set_get e1 hz with ⟨a, b⟩ | ⟨a, b⟩
      · exact .inr ⟨a, b⟩
      · exact .inl ⟨b, a⟩
    rcases Tide.set_get e1 hr with ⟨a, rfl⟩ | ⟨a, hr2⟩
    · subst a
      rcases hz2 with ⟨hz2, _⟩ | ⟨c, _⟩
      · have hs' : z.source = q.source := hs
        refine ⟨fun e => ?_, count_zero e5 hz2 hs'⟩
        exact hno z (List.mem_of_getElem? (i := k) (by rw [List.getElem?_take, if_pos hk]; exact hz2)) (by unfold Tide.waitsOf; simp [hs', e])
      · omega
    · rcases hz2 with ⟨hz2, _⟩ | ⟨rfl, rfl⟩
      · exact hP i r hr2 f1 f4 k z hk hz2 hs
      · exact absurd e3 (hP i r hr2 f1 f4 k q hk e1 hs).1
  | done b f fl now n h =>
    show Led (Tide.doneLst b n)
    unfold Tide.doneLst
    split
    · exact hP
    · rename_i q hq
      split
      · rename_i h2
        have hr := Tide.reqAt_get hq
        refine led_of hP (by simp) fun k r' hk => ?_
        rcases Tide.set_get hr hk with ⟨a, rfl⟩ | ⟨a, b⟩
        · subst a; exact ⟨q, hr, rfl, fun _ => by omega, fun e => by omega⟩
        · exact ⟨r', b, rfl, id, id⟩
      · exact hP
  | crash b f fl now n h =>
    show Led (Tide.lostLst b n)
    exact led_map hP _ _ (fun r hr _ => by unfold Tide.isLost at hr; rw [Bool.and_eq_true] at hr; simpa using hr.1) ⟨by omega, by omega⟩
  | turn b f fl now n src dst h => exact hP
  | scale b f fl now n => exact hP
theorem led_do {m : Wo} {j : Nat} (h : m.ok j) (hP : Led m.b) (k a n : Int) : Led (doW m k a n).b :=
  do_inv (fun x => Led x.b) (fun x y h1 _ hp k => led_step x y h1 hp k) h hP k a n
theorem onces_do {m : Wo} {j : Nat} (h : m.ok j) (hP : ∀ r ∈ m.b, LateOk m.now r) (k a n : Int) : Onces m.b (doW m k a n).b :=
  (do_inv (fun x => Onces m.b x.b ∧ ∀ r ∈ x.b, LateOk x.now r) (fun x y h1 h2 hp k => ⟨hp.1.trans (onces_step x y h1 hp.2 k), lateOk_step x y h1 h2 hp.2 k⟩) h ⟨Onces.refl _, hP⟩ k a n).1
end Go.Proofs.YtlfaogkdghnmcaaGreat
