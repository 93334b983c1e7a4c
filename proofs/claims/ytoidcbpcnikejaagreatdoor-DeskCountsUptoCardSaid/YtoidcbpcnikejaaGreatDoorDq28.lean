/- Parts of this claim: WldN, WldO, Bld. -/
import Derived.Great.BuildSlice
import Derived.Test.YtoidcbpcnikejaaGreatDoorDq27
set_option linter.unusedVariables false
set_option linter.unusedSimpArgs false
set_option maxRecDepth 100000
set_option maxHeartbeats 12800000
namespace G
theorem next_pos {l : List Req} (hn : Numbered l) (h : 0 < nextN l) : ∃ (j : Nat) (r : Req), l[j]? = some r ∧ nextN l = (j : Int) + 1 ∧ r.fate = 1 ∧ countF r.source 2 l = 0 ∧ firstN l r.source = nextN l := by
 have hb := best_inv l 6
 have e : (List.range 6).foldl (bestStep l) 0 = nextN l := rfl
 rw [e] at hb
 rcases hb with ⟨h1, _⟩ | ⟨_, ⟨s, _, h2⟩, _⟩
 ·omega
 obtain ⟨j, r, e1, e2, e3, e4⟩ := firstN_pos hn (s := s) (by omega)
 unfold freeF at e3
 rw [Bool.and_eq_true] at e3
 exact ⟨j, r, e1, by omega, by simpa using e3.1, by simpa using e3.2, by rw [e4]; omega⟩
theorem reqAt_is {l : List Req} {j : Nat} {r : Req} (h : l[j]? = some r) : reqAt l ((j : Int) + 1) = some r := by
 unfold reqAt; rw [if_pos (by omega), show ((j : Int) + 1 - 1).toNat = j by omega]; exact h
theorem run_next {l : List Req} (hn : Numbered l) (h : 0 < nextN l) (pod : Int) : ∃ (j : Nat) (r : Req), l[j]? = some r ∧ nextN l = (j : Int) + 1 ∧ r.fate = 1 ∧ countF r.source 2 l = 0 ∧ firstN l r.source = nextN l ∧ runErr l (nextN l) = 0 ∧ runLst l (nextN l) pod = l.set j { r with fate := 2, pod := pod } := by
 obtain ⟨j, r, h1, h2, h3, h4, h5⟩ := next_pos hn h
 refine ⟨j, r, h1, h2, h3, h4, h5, ?_, ?_⟩
 ·unfold runErr; rw [h2, reqAt_is h1]; simp only; rw [if_pos (by omega)]
 unfold runLst; rw [h2, reqAt_is h1]; simp only; rw [if_pos (by omega), show ((j : Int) + 1 - 1).toNat = j by omega]
theorem tame_num {l l' : List Req} (h : Numbered l) (t : Tame l l') : Numbered l' := fun k r' hk => by
 obtain ⟨r, h1, h2, h3, _, _⟩ := t.2 k r' hk
 rw [h2, h3]; exact h k r h1
def waitN (l : List Req) : Nat := l.countP (fun r => r.fate == 1)
theorem waitN_run {l : List Req} (hn : Numbered l) (h : 0 < nextN l) (pod : Int) : waitN (runLst l (nextN l) pod) + 1 = waitN l := by
 obtain ⟨j, r, h1, _, h3, _, _, _, h4⟩ := run_next hn h pod
 rw [h4]
 have hl := get_lt h1
 have e : l[j] = r := by rw [List.getElem?_eq_getElem hl] at h1; exact Option.some.inj h1
 have hpos : 0 < l.countP (fun r => r.fate == 1) := List.countP_pos_iff.2 ⟨r, List.mem_of_getElem? h1, by simpa using h3⟩
 unfold waitN
 rw [List.countP_set (h := hl), e]
 simp [h3]; omega
theorem run_length (l : List Req) (id pod : Int) : (runLst l id pod).length = l.length := (tame_run l id pod).1
theorem late_length (l : List Req) (now : Int) : (lateLst l now).length = l.length := (tame_late l now).1
theorem lost_length (l : List Req) (x : Int) : (lostLst l x).length = l.length := (tame_lost l x).1
theorem reqDone_length (l : List Req) (x : Int) : (doneLst l x).length = l.length := (tame_done l x).1
theorem ask_length {l : List Req} (h : l.length ≤ 200) (now s n : Int) : (askLst l now s n).length ≤ 200 := by
 unfold askLst
 split
 ·rename_i h0
  unfold askErr at h0
  split at h0
  ·cases h0
  split at h0
  ·cases h0
  split at h0
  ·cases h0
  simp; omega
 exact h
theorem live_turn (l : List Pod) (id src dst : Int) (h : src ≠ 4) (h2 : dst ≠ 4) : liveN (turnLst l id src dst) = liveN l := by
 unfold turnLst
 cases hf : findP l id with
 | none => rfl
 | some i =>
  obtain ⟨p, hp, _⟩ := findP_some hf
  simp only [hp]
  split
  ·rename_i hs
   have e1 : lives p = true := by unfold lives; simp [hs, h]
   have e2 : lives { p with state := dst } = true := by unfold lives; simp [h2]
   rw [live_set hp, e1, e2]; simp
  rfl
theorem live_crash (l : List Pod) (id : Int) : liveN (crashLst l id) ≤ liveN l := by
 unfold crashLst
 cases hf : findP l id with
 | none => exact Int.le_refl _
 | some i =>
  obtain ⟨p, hp, _⟩ := findP_some hf
  simp only
  rw [live_erase hp]; split <;> omega
theorem live_give (l : List Pod) (most : Int) : liveN (giveLst l most) = liveN l := by
 unfold giveLst
 cases hg : giveAt l most with
 | none => rfl
 | some i =>
  obtain ⟨p, hp, hs, _⟩ := giveAt_some hg
  simp only [hp]
  have e : lives { p with load := p.load + 1 } = lives p := rfl
  rw [live_set hp, e]; omega
theorem live_podDone (l : List Pod) (id : Int) : liveN (podDoneLst l id) ≤ liveN l := by
 unfold podDoneLst
 cases hf : findP l id with
 | none => exact Int.le_refl _
 | some i =>
  obtain ⟨p, hp, _⟩ := findP_some hf
  simp only [hp]
  split
  ·exact Int.le_refl _
  split
  ·rw [live_erase hp]; split <;> omega
  have e : lives { p with load := p.load - 1 } = lives p := rfl
  rw [live_set hp, e]; omega
theorem scale_bad {n : Int} (h : scaleErr n ≠ 0) (l : List Pod) (last : Int) : scaleLst l last n = l := by
 have h' : n < 0 ∨ 50 < n := by unfold scaleErr at h; split at h; assumption; exact absurd rfl h
 unfold scaleLst scaleUp scaleDown
 rw [if_pos h', if_pos h']
 simp [newPods, thinN]
theorem live_scale {l : List Pod} {last most : Int} (h : Crewed l last most) (hm : 0 ≤ most) (n : Int) (hl : liveN l ≤ 50) : liveN (scaleLst l last n) ≤ 50 := by
 by_cases c : scaleErr n = 0
 ·rw [(h.scale hm n).2.2.1 c]; unfold scaleErr at c; split at c; cases c; omega
 rw [scale_bad c]; exact hl
theorem back_length (l : List Msg) (now : Int) : (nowLst l now).length = l.length := by unfold nowLst; split; simp [backAll]; rfl
theorem back_back (now : Int) (m : Msg) : back now (back now m) = back now m := by
 unfold back
 by_cases h : (m.taken && decide (m.till ≤ now)) = true
 ·rw [if_pos h]; simp
 rw [if_neg h, if_neg h]
theorem now_now (l : List Msg) (now : Int) : nowLst (nowLst l now) now = nowLst l now := by
 unfold nowLst
 split
 ·unfold backAll; rw [List.map_map]; congr 1; funext m; exact back_back now m
 rfl
theorem depth_now (l : List Msg) (now : Int) : depthNum (nowLst l now) now = depthNum l now := by
 unfold depthNum nowLst
 split
 ·unfold backAll; rw [List.map_map]; congr 3; funext m; exact back_back now m
 rfl
theorem put_length {l : List Msg} (h : l.length ≤ 200) (last n : Int) : (putLst l last n).length ≤ 200 := by
 unfold putLst
 split
 ·exact h
 split
 ·exact h
 rw [List.length_append, newMsgs_length]; omega
theorem putLast_bd {l : List Msg} {last n : Int} (h : 0 ≤ last) : 0 ≤ putLast l last n ∧ putLast l last n ≤ last + 200 := by
 unfold putLast
 split
 ·omega
 split
 ·omega
 omega
theorem lease_length (l : List Msg) (now n : Int) : (leaseLst l now n).length = l.length := by
 unfold leaseLst
 split
 ·split
  ·simp [backAll]
  rw [List.length_modify]; simp [backAll]
 rfl
theorem ack_length (l : List Msg) (now n : Int) : (ackLst l now n).length ≤ l.length := by
 unfold ackLst
 split
 ·split
  ·simp [backAll]
  split
  ·split
   ·exact Nat.le_trans (List.eraseIdx_sublist _ _).length_le (by simp [backAll])
   simp [backAll]
  simp [backAll]
 exact Nat.le_refl _
end G
namespace Go.Proofs.YtoidcbpcnikejaaGreatDoor
open Go.RowKit
theorem onN_stop {most : Int} {x : List G.Req × List G.Pod} (h : onGoes most x.1 x.2 = false) : ∀ k, onN most k x = x
 | 0 => rfl
 | k + 1 => by unfold onN; rw [h]; rfl
theorem onN_go {most : Int} {x : List G.Req × List G.Pod} (h : onGoes most x.1 x.2 = true) (k : Nat) : onN most (k + 1) x = onN most k (G.runLst x.1 (G.nextN x.1) (G.giveNum x.2 most), G.giveLst x.2 most) := by
 conv => lhs; unfold onN
 rw [h]; rfl
theorem onN_inv {most : Int} (P : List G.Req → List G.Pod → Prop) (hs : ∀ b f, P b f → onGoes most b f = true → P (G.runLst b (G.nextN b) (G.giveNum f most)) (G.giveLst f most)) : ∀ (k : Nat) (b : List G.Req) (f : List G.Pod), P b f → P (onN most k (b, f)).1 (onN most k (b, f)).2
 | 0, b, f, h => h
 | k + 1, b, f, h => by
  cases hg : onGoes most b f
  ·rw [onN_stop (x := (b, f)) hg]; exact h
  rw [onN_go (x := (b, f)) hg]; exact onN_inv P hs k _ _ (hs b f h hg)
theorem readsOf_length {tp : List (Int × Int)} {q : List G.Msg} {now : Int} : ∀ {ts : List Trg} {bs : List Bool}, bs.length = ts.length → (readsOf tp q now ts bs).length = ts.length
 | [], [], _ => rfl
 | [], _ :: _, h => by simp at h
 | _ :: _, [], h => by simp at h
 | t :: ts, b :: bs, h => by
  have := readsOf_length (tp := tp) (q := q) (now := now) (ts := ts) (bs := bs) (by simpa using h)
  simp [readsOf, this]
section
variable {m : Wo} {j : Nat}
theorem Wo.ok.up (h : m.ok j) {k : Nat} (hk : j ≤ k) : m.ok k := by
 have hl : ∀ d : Nat, m.l.ok (j + d) := fun d => by
  induction d with
  | zero => exact h.lp
  | succ d ih => exact Lp.ok_up ih
 have := hl (k - j)
 rw [show j + (k - j) = k by omega] at this
 exact { h with lp := this, ql1 := by have := h.ql1; omega, fn := by have := h.fn; omega, fl1 := by have := h.fl1; omega }
theorem ok_on (h : m.ok j) : m.on.ok j := by
 have hi := onN_inv (most := m.most) (fun b f => G.Fair b ∧ b.length = m.b.length ∧ G.Crewed f m.fl m.most ∧ G.liveN f = G.liveN m.f ∧ f.length = m.f.length) (fun b f hP _ => by
  obtain ⟨h1, h2, h3, h4, h5⟩ := hP
  exact ⟨(G.fair_run h1 _ _).1, by rw [G.run_length]; exact h2, h3.give.1, by rw [G.live_give]; exact h4, by rw [h3.give.2.2]; exact h5⟩) m.b.length m.b m.f ⟨h.fair, rfl, h.crew, rfl, rfl⟩
 obtain ⟨h1, h2, h3, h4, h5⟩ := hi
 unfold Wo.on
 generalize onN m.most m.b.length (m.b, m.f) = x at h1 h2 h3 h4 h5 ⊢
 have b1 := h.bn
 have b2 := h.live
 have b3 := h.fn
 exact ⟨h.lp, h.last, h.tp, h.tn, h.qn, h.ql0, h.ql1, h3, by show G.liveN x.2 ≤ 50; omega, by show x.2.length ≤ 50 * j; omega, h.fl1, h.most0, h.most1, h1, by show x.1.length ≤ 200; omega, h.fails, h.now0, h.now1, h.sec0, h.sec1⟩
theorem ok_late (h : m.ok j) (hn : m.now < 1099511627776) : m.late.ok j := by
 have f1 := (G.fair_late h.fair (m.now + 1)).1
 have f2 := G.late_length m.b (m.now + 1)
 have b1 := h.bn
 have b2 := h.last
 have b3 := h.now0
 unfold Wo.late
 generalize G.lateLst m.b (m.now + 1) = x at f1 f2 ⊢
 exact ⟨h.lp, by show m.l.last ≤ m.now + 1; omega, h.tp, h.tn, h.qn, h.ql0, h.ql1, h.crew, h.live, h.fn, h.fl1, h.most0, h.most1, f1, by show x.length ≤ 200; omega, h.fails, by show 0 ≤ m.now + 1; omega, by show m.now + 1 ≤ 1099511627776; omega, h.sec0, h.sec1⟩
theorem lookL_last (l : Lp) (now sec have0 : Int) (rs : List Rd) (busy : Bool) : (lookL l now sec have0 rs busy).last = l.last ∨ (lookL l now sec have0 rs busy).last = now := by
 unfold lookL
 split
 ·exact .inl rfl
 split
 ·exact .inr rfl
 right
 show ((l.seen now rs).marked now _).last = now
 unfold Lp.marked; split <;> rfl
theorem ok_look (h : m.ok j) : m.look.ok (j + 1) := by
 have hm : 0 ≤ m.most := by have := h.most0; omega
 obtain ⟨s1, s2, s3, s4, s5⟩ := h.crew.scale hm m.told
 have hp : m.look.l.p = m.l.p := lookL_p _ _ _ _ _ _
 exact { h with
  lp := look_ok h.lp
  last := by
   rcases lookL_last m.l m.now (min (m.sec + m.now) 100000000000) (G.liveN m.f) m.reads m.busy with e | e
   ·exact e ▸ h.last
   exact Int.le_of_eq e
  qn := by
   show (qAfter _ _ _).length ≤ 200
   unfold qAfter; split
   ·rw [G.back_length]; exact h.qn
   exact h.qn
  ql1 := by show m.ql ≤ _; have := h.ql1; omega
  crew := s1
  live := G.live_scale h.crew hm m.told h.live
  fn := by show (G.scaleLst _ _ _).length ≤ _; have := h.fn; omega
  fl1 := by show G.scaleLast _ _ _ ≤ _; have := h.fl1; omega
  fails := by show m.fails.length = m.look.l.p.trigs.length; rw [hp]; exact h.fails }
theorem ok_seen (h : m.ok j) : m.seen.ok (j + 1) := by
 unfold Wo.seen; split
 ·exact ok_look h
 exact h.up (by omega)
theorem ok_tick (h : m.ok j) (hn : m.now < 1099511627776) : m.tick.ok (j + 1) := ok_on (ok_seen (ok_late h hn))
theorem seen_now (m : Wo) : m.seen.now = m.now := by unfold Wo.seen; split <;> rfl
theorem tick_now (m : Wo) : m.tick.now = m.now + 1 := by show m.late.seen.now = _; rw [seen_now]; rfl
theorem ticks_now (n : Nat) (m : Wo) : (ticksN n m).now = m.now + n := by
 induction n with
 | zero => show m.now = _; omega
 | succ n ih => show (ticksN n m).tick.now = _; rw [tick_now, ih]; omega
theorem ok_ticks (h : m.ok j) : ∀ n : Nat, m.now + n ≤ 1099511627776 → (ticksN n m).ok (j + n)
 | 0, _ => h
 | n + 1, hn => by
  have ih := ok_ticks h n (by omega)
  have := ok_tick ih (by rw [ticks_now]; omega)
  exact this
theorem tickE_ok {n : Int} (h : tickE m n = 0) : 1 ≤ n ∧ n ≤ 1000 ∧ m.now + n ≤ 1099511627776 := by
 unfold tickE at h; split at h
 ·cases h
 omega
theorem ok_do (h : m.ok j) (k a n : Int) : (doW m k a n).ok (j + 1000) := by
 have hu : m.ok (j + 1000) := h.up (by omega)
 unfold doW
 by_cases k1 : k = 1
 ·rw [if_pos k1]
  split
  ·rename_i he
   obtain ⟨h1, h2, h3⟩ := tickE_ok he
   exact (ok_ticks h n.toNat (by omega)).up (by omega)
  exact hu
 rw [if_neg k1]
 by_cases k2 : k = 2
 ·rw [if_pos k2]; exact { hu with tp := h.tp.makes a n, tn := by show (makeLst _ _ _).length ≤ 20; rw [makeLst_length]; exact h.tn }
 rw [if_neg k2]
 by_cases k3 : k = 3
 ·rw [if_pos k3]; exact { hu with tp := h.tp.takes a n, tn := by show (takeLst _ _ _).length ≤ 20; rw [takeLst_length]; exact h.tn }
 rw [if_neg k3]
 by_cases k4 : k = 4
 ·rw [if_pos k4]
  have hq := G.putLast_bd (l := m.q) (n := n) h.ql0
  have := h.ql1
  exact { hu with qn := G.put_length h.qn _ _, ql0 := hq.1, ql1 := by show G.putLast _ _ _ ≤ _; omega }
 rw [if_neg k4]
 by_cases k5 : k = 5
 ·rw [if_pos k5]; exact { hu with qn := by show (G.leaseLst _ _ _).length ≤ 200; rw [G.lease_length]; exact h.qn }
 rw [if_neg k5]
 by_cases k6 : k = 6
 ·rw [if_pos k6]; exact { hu with qn := Nat.le_trans (G.ack_length _ _ _) h.qn }
 rw [if_neg k6]
 by_cases k7 : k = 7
 ·rw [if_pos k7]
  split
  ·exact { hu with fails := by show (m.fails.set _ _).length = _; rw [List.length_set]; exact h.fails }
  exact hu
 rw [if_neg k7]
 have hst := h.crew.turn n 1 2 (.inl ⟨rfl, rfl⟩)
 have hrd := h.crew.turn n 2 3 (.inr ⟨rfl, rfl⟩)
 have hcr := h.crew.crash n
 by_cases k8 : k = 8
 ·rw [if_pos k8]; exact { hu with crew := hst.1, live := by show G.liveN (G.turnLst _ _ _ _) ≤ 50; rw [G.live_turn _ _ _ _ (by omega) (by omega)]; exact h.live, fn := by show (G.turnLst _ _ _ _).length ≤ _; rw [hst.2.2]; exact hu.fn }
 rw [if_neg k8]
 by_cases k9 : k = 9
 ·rw [if_pos k9]
  split
  ·exact ok_on { hu with crew := hrd.1, live := by show G.liveN (G.turnLst _ _ _ _) ≤ 50; rw [G.live_turn _ _ _ _ (by omega) (by omega)]; exact h.live, fn := by show (G.turnLst _ _ _ _).length ≤ _; rw [hrd.2.2]; exact hu.fn }
  exact hu
 rw [if_neg k9]
 by_cases k10 : k = 10
 ·rw [if_pos k10]
  split
  ·exact ok_on { hu with crew := hcr.1, live := Int.le_trans (G.live_crash _ _) h.live, fn := Nat.le_trans hcr.2.2 hu.fn, fair := (G.fair_lost h.fair _).1, bn := by show (G.lostLst _ _).length ≤ 200; rw [G.lost_length]; exact h.bn }
  exact hu
 rw [if_neg k10]
 by_cases k11 : k = 11
 ·rw [if_pos k11]
  split
  ·exact ok_on { hu with fair := (G.fair_ask h.fair _ _ _).1, bn := G.ask_length h.bn _ _ _ }
  exact hu
 rw [if_neg k11]
 by_cases k12 : k = 12
 ·rw [if_pos k12]
  have hd := h.crew.done (G.doneNum m.b n)
  split
  ·exact ok_on (m := doneW m n) { hu with crew := hd.1, live := Int.le_trans (G.live_podDone _ _) h.live, fn := Nat.le_trans hd.2.2 hu.fn, fair := (G.fair_done h.fair _).1, bn := by show (G.doneLst _ _).length ≤ 200; rw [G.reqDone_length]; exact h.bn }
  exact hu
 rw [if_neg k12]
 split
 ·exact { hu with lp := pause_ok hu.lp n, last := by show (pauseL m.l n).last ≤ m.now; unfold pauseL; split <;> exact h.last, fails := by show m.fails.length = (pauseL m.l n).p.trigs.length; rw [pauseL_p]; exact h.fails }
 exact hu
theorem ok_new {p : Pln} {parts most sec : Int} (hp : planE p = 0) (hf : ∀ t ∈ p.trigs, t.fits) (h1 : parts ≤ 20) (h2 : -10000000000 ≤ sec) (h3 : sec ≤ 10000000000) : (newWo p parts most sec).ok 0 where
 lp := newLp_ok hp hf
 last := Int.le_refl _
 tp := fun q hq => by
  have := List.eq_of_mem_replicate (show q ∈ List.replicate parts.toNat ((0 : Int), (0 : Int)) from hq)
  subst this; simp
 tn := by show (List.replicate _ _).length ≤ 20; rw [List.length_replicate]; omega
 qn := by show 0 ≤ 200; omega
 ql0 := Int.le_refl _
 ql1 := by show (0 : Int) ≤ _; omega
 crew := G.Crewed.nil _
 live := by show G.liveN [] ≤ 50; decide
 fn := by show 0 ≤ _; omega
 fl1 := by show (0 : Int) ≤ _; omega
 most0 := by show 1 ≤ min (max most 1) 100; omega
 most1 := by show min (max most 1) 100 ≤ 100; omega
 fair := G.Fair.nil
 bn := by show 0 ≤ 200; omega
 fails := by show (List.replicate _ _).length = _; rw [List.length_replicate]; rfl
 now0 := Int.le_refl _
 now1 := by show (0 : Int) ≤ _; omega
 sec0 := h2
 sec1 := h3
end
end Go.Proofs.YtoidcbpcnikejaaGreatDoor
namespace G
end G
namespace Go.Proofs.YtoidcbpcnikejaaGreatDoor
open Go.RowKit
theorem doW_elim {m : Wo} {k a n : Int} (P : Wo → Prop) (h0 : P m) (h1 : k = 1 → tickE m n = 0 → P (ticksN n.toNat m)) (h2 : k = 2 → P { m with t := makeLst m.t a n }) (h3 : k = 3 → P { m with t := takeLst m.t a n })
  (h4 : k = 4 → P { m with q := G.putLst m.q m.ql n, ql := G.putLast m.q m.ql n }) (h5 : k = 5 → P { m with q := G.leaseLst m.q m.now n }) (h6 : k = 6 → P { m with q := G.ackLst m.q m.now n }) (h7 : k = 7 → failE m a n = 0 → P { m with fails := m.fails.set a.toNat (n == 1) })
  (h8 : k = 8 → P { m with f := G.turnLst m.f n 1 2 }) (h9 : k = 9 → G.turnErr m.f n 2 = 0 → P ({ m with f := G.turnLst m.f n 2 3 } : Wo).on) (h10 : k = 10 → G.crashErr m.f n = 0 → P ({ m with f := G.crashLst m.f n, b := G.lostLst m.b n } : Wo).on)
  (h11 : k = 11 → G.askErr m.b m.now a n = 0 → P ({ m with b := G.askLst m.b m.now a n } : Wo).on) (h12 : k = 12 → G.doneErr m.b n = 0 → P (doneW m n).on) (h13 : k = 13 → P { m with l := pauseL m.l n }) : P (doW m k a n) := by
 unfold doW
 by_cases k1 : k = 1
 ·rw [if_pos k1]
  by_cases c : tickE m n = 0
  ·rw [if_pos c]; exact h1 k1 c
  rw [if_neg c]; exact h0
 rw [if_neg k1]
 by_cases k2 : k = 2
 ·rw [if_pos k2]; exact h2 k2
 rw [if_neg k2]
 by_cases k3 : k = 3
 ·rw [if_pos k3]; exact h3 k3
 rw [if_neg k3]
 by_cases k4 : k = 4
 ·rw [if_pos k4]; exact h4 k4
 rw [if_neg k4]
 by_cases k5 : k = 5
 ·rw [if_pos k5]; exact h5 k5
 rw [if_neg k5]
 by_cases k6 : k = 6
 ·rw [if_pos k6]; exact h6 k6
 rw [if_neg k6]
 by_cases k7 : k = 7
 ·rw [if_pos k7]
  by_cases c : failE m a n = 0
  ·rw [if_pos c]; exact h7 k7 c
  rw [if_neg c]; exact h0
 rw [if_neg k7]
 by_cases k8 : k = 8
 ·rw [if_pos k8]; exact h8 k8
 rw [if_neg k8]
 by_cases k9 : k = 9
 ·rw [if_pos k9]
  by_cases c : G.turnErr m.f n 2 = 0
  ·rw [if_pos c]; exact h9 k9 c
  rw [if_neg c]; exact h0
 rw [if_neg k9]
 by_cases k10 : k = 10
 ·rw [if_pos k10]
  by_cases c : G.crashErr m.f n = 0
  ·rw [if_pos c]; exact h10 k10 c
  rw [if_neg c]; exact h0
 rw [if_neg k10]
 by_cases k11 : k = 11
 ·rw [if_pos k11]
  by_cases c : G.askErr m.b m.now a n = 0
  ·rw [if_pos c]; exact h11 k11 c
  rw [if_neg c]; exact h0
 rw [if_neg k11]
 by_cases k12 : k = 12
 ·rw [if_pos k12]
  by_cases c : G.doneErr m.b n = 0
  ·rw [if_pos c]; exact h12 k12 c
  rw [if_neg c]; exact h0
 rw [if_neg k12]
 by_cases k13 : k = 13
 ·rw [if_pos k13]; exact h13 k13
 rw [if_neg k13]; exact h0
structure Bp where
 b : List G.Req
 f : List G.Pod
 fl : Int
 now : Int
inductive El (most : Int) : Bp → Bp → Prop
 | ask (b : List G.Req) (f : List G.Pod) (fl now s n : Int) (h : G.askErr b now s n = 0) : El most ⟨b, f, fl, now⟩ ⟨G.askLst b now s n, f, fl, now⟩
 | late (b : List G.Req) (f : List G.Pod) (fl now : Int) (h0 : 0 ≤ now) (h1 : now < 1099511627776) : El most ⟨b, f, fl, now⟩ ⟨G.lateLst b (now + 1), f, fl, now + 1⟩
 | run (b : List G.Req) (f : List G.Pod) (fl now : Int) (h : onGoes most b f = true) : El most ⟨b, f, fl, now⟩ ⟨G.runLst b (G.nextN b) (G.giveNum f most), G.giveLst f most, fl, now⟩
 | done (b : List G.Req) (f : List G.Pod) (fl now n : Int) (h : G.doneErr b n = 0) : El most ⟨b, f, fl, now⟩ ⟨G.doneLst b n, G.podDoneLst f (G.doneNum b n), fl, now⟩
 | crash (b : List G.Req) (f : List G.Pod) (fl now n : Int) (h : G.crashErr f n = 0) : El most ⟨b, f, fl, now⟩ ⟨G.lostLst b n, G.crashLst f n, fl, now⟩
 | turn (b : List G.Req) (f : List G.Pod) (fl now n src dst : Int) (h : src = 1 ∧ dst = 2 ∨ src = 2 ∧ dst = 3) : El most ⟨b, f, fl, now⟩ ⟨b, G.turnLst f n src dst, fl, now⟩
 | scale (b : List G.Req) (f : List G.Pod) (fl now n : Int) : El most ⟨b, f, fl, now⟩ ⟨b, G.scaleLst f fl n, G.scaleLast f fl n, now⟩
inductive Els (most : Int) (x : Bp) : Bp → Prop
 | refl : Els most x x
 | step {y z : Bp} (h : Els most x y) (k : El most y z) : Els most x z
theorem Els.trans {most : Int} {x y z : Bp} (h : Els most x y) (k : Els most y z) : Els most x z := by
 induction k with
 | refl => exact h
 | step _ k ih => exact ih.step k
section
variable {m : Wo} {j : Nat}
end
/-! TopLate -/
/-! TopOnce -/
def Once (a r : G.Req) : Prop := r.id = a.id ∧ r.source = a.source ∧ (a.pod = 0 ∨ r.pod = a.pod) ∧ (3 ≤ a.fate → r.fate = a.fate)
def Onces (l l' : List G.Req) : Prop := l.length ≤ l'.length ∧ ∀ (k : Nat) (a : G.Req), l[k]? = some a → ∃ r, l'[k]? = some r ∧ Once a r
theorem Once.refl (a : G.Req) : Once a a := ⟨rfl, rfl, .inr rfl, fun _ => rfl⟩
theorem Onces.refl (l : List G.Req) : Onces l l := ⟨Nat.le_refl _, fun k a h => ⟨a, h, Once.refl a⟩⟩
theorem Onces.trans {l l' l'' : List G.Req} (h : Onces l l') (k : Onces l' l'') : Onces l l'' := ⟨Nat.le_trans h.1 k.1, fun i a ha => by
 obtain ⟨r, h1, h2, h3, h4, h5⟩ := h.2 i a ha
 obtain ⟨q, k1, k2, k3, k4, k5⟩ := k.2 i r h1
 refine ⟨q, k1, k2.trans h2, k3.trans h3, ?_, fun e => (k5 (by rw [h5 e]; exact e)).trans (h5 e)⟩
 rcases h4 with h4 | h4
 ·exact .inl h4
 rcases k4 with k4 | k4
 ·left; omega
 right; omega⟩
open Go.RowKit
theorem _root_.Go.RowKit.Below.setRow {B : Nat} {a w : World} (h : Below B a w) {g : Nat} (hg : B ≤ g) (cs : Array Value) : Below B a (w.setRow g cs) :=
 ⟨h.os, h.tape, h.output, by rw [setRow_size]; exact h.size, fun k hk => (setRow_other w g k cs (by omega)).trans (h.block k hk)⟩
end Go.Proofs.YtoidcbpcnikejaaGreatDoor
