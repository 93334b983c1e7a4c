/- One queue alone: how many pods a look tells; the plain law of TopNeeds. -/
import Derived.Test.YtlfaogkdghnmcaaGreatWldP
import Derived.Test.YtlfaogkdghnmcaaGreatZStb
import Derived.Test.YtlfaogkdghnmcaaGreatZLopC
set_option linter.unusedVariables false
set_option linter.unusedSimpArgs false
namespace Go.Proofs.YtlfaogkdghnmcaaGreat
open Go.RowKit
def depT (k : Int) : Trg := { plainT with target := k }
def depP (k : Int) : Pln := { plainP with mx := 50, poll := 1, trigs := [depT k] }
theorem quo_ceil {d k : Int} (hk : 1 ≤ k) : -((-d) / k) = (d + k - 1) / k := by
  have hk0 : k ≠ 0 := by omega
  have h1 := Int.mul_ediv_self_le (x := d + k - 1) hk0
  have h2 := Int.lt_mul_ediv_self_add (x := d + k - 1) (show 0 < k by omega)
  have h3 := Int.mul_ediv_self_le (x := -d) hk0
  have h4 := Int.lt_mul_ediv_self_add (x := -d) (show 0 < k by omega)
  generalize (d + k - 1) / k = q at h1 h2 ⊢
  generalize (-d) / k = r at h3 h4 ⊢
  have h5 : k * (q + r) = k * q + k * r := Int.mul_add k q r
  rcases Int.lt_trichotomy (q + r) 0 with c | c | c
  · have := Int.mul_le_mul_of_nonneg_left (show q + r ≤ -1 by omega) (show 0 ≤ k by omega)
    have e : k * (-1) = -k := by omega
    omega
  · omega
  · have := Int.mul_le_mul_of_nonneg_left (show 1 ≤ q + r by omega) (show 0 ≤ k by omega)
    have e : k * 1 = k := by omega
    omega
theorem met_dep {d : Int} (h0 : 0 ≤ d) (h1 : d ≤ 200) : Tide.metN 2 (Tide.spot [d]) 1 = d := by
  show (if Tide.picks 2 0 (Tide.spot [d] 0) then Tide.addc 0 (Tide.spot [d] 0) else 0) = d
  show (if Tide.picks 2 0 d then Tide.addc 0 d else 0) = d
  by_cases c : 0 < d
  · rw [if_pos (by unfold Tide.picks; simp [c])]
    unfold Tide.addc
    rw [Tide.clip_id (n := 0) (by omega) (by omega), Tide.clip_id (n := d) (by omega) (by omega), Tide.clip_id (by omega) (by omega)]; omega
  · rw [if_neg (by unfold Tide.picks; simp [c])]; omega
/-- what the trigger wants -/
theorem one_dep {k d sec have0 : Int} (k1 : 1 ≤ k) (k2 : k ≤ 30) (d0 : 0 ≤ d) (d1 : d ≤ 200) (h0 : 0 ≤ have0) (h1 : have0 ≤ 50) : oneT (depP k) (depT k) 0 ⟨false, [d]⟩ sec have0 = ((d + k - 1) / k, decide (0 < d)) := by
  have hm : Tide.metN (depT k).kind (Tide.spot [d]) 1 = d := met_dep d0 d1
  have hc : Tide.ceilc d k = (d + k - 1) / k := by
    unfold Tide.ceilc
    rw [Tide.clip_id (n := d) (by omega) (by omega), Tide.clip_id (n := k) (by omega) (by omega)]
    exact quo_ceil k1
  have hn : ∀ s t, needT (depT k) s t ⟨false, [d]⟩ = ((d + k - 1) / k, decide (0 < d), 0) := fun s t => by
    unfold needT
    show needR _ _ 2 k 0 s t false (Tide.metN (depT k).kind (Tide.spot [d]) 1) _ = _
    rw [hm]
    unfold needR
    rw [if_neg (by omega), if_neg (by omega), if_neg (by simp), if_neg (by omega), hc]
  unfold oneT
  rw [if_neg (by omega), if_neg (show ¬ (depT k).kind = 3 from (by decide : ¬ (2 : Int) = 3)), hn]
  refine Prod.ext ?_ rfl
  show (wantT (depT k) have0 0 ⟨false, [d]⟩).1 = _
  unfold wantT
  rw [hn]
  show (wantR have0 0 2 k false (Tide.metN (depT k).kind (Tide.spot [d]) 1) ((d + k - 1) / k)).1 = _
  rw [hm]
  unfold wantR
  rw [if_neg (by omega), if_neg (by simp)]
  show (if _ then have0 else (d + k - 1) / k) = _
  split
  · rename_i hh
    obtain ⟨g1, g2⟩ := hh
    have hb := Int.mul_le_mul_of_nonneg_left k2 h0
    have hb0 : 0 ≤ have0 * k := Int.mul_nonneg h0 (by omega)
    have e1 : Tide.mulc have0 k = have0 * k := by
      unfold Tide.mulc
      rw [Tide.clip_id (n := have0) (by omega) (by omega), Tide.clip_id (n := k) (by omega) (by omega), Tide.clip_id (by omega) (by omega)]
    have e2 : Tide.sharec (have0 * k) 0 = 0 := by
      unfold Tide.sharec
      rw [show Tide.pos 0 = 0 by decide, Int.mul_zero]; decide
    rw [e1, e2] at g2
    unfold Tide.subc at g2
    rw [Tide.clip_id (n := d) (by omega) (by omega), Tide.clip_id (n := have0 * k) (by omega) (by omega), Tide.clip_id (n := d - have0 * k) (by omega) (by omega), Tide.clip_id (n := have0 * k - d) (by omega) (by omega)] at g2
    have e3 : d = have0 * k := by omega
    rw [e3, show have0 * k + k - 1 = (k - 1) + have0 * k by omega, Int.add_mul_ediv_right _ _ (by omega), Int.ediv_eq_zero_of_lt (by omega) (by omega)]; omega
  · rfl
/-- what a look of it tells -/
theorem look_dep {l : Lp} {j : Nat} {now sec have0 d k : Int} (hl : l.ok j) (hp : l.p = depP k) (hpa : l.pause = -1) (hf : l.fails = [0]) (hs : Free l.s) (hk : lookOk l now sec have0 [(⟨false, [d]⟩ : Rd)].length = true) (k1 : 1 ≤ k) (k2 : k ≤ 30) (d0 : 0 ≤ d) (d1 : d ≤ 200) :
    (0 < d → lookN l now sec have0 [⟨false, [d]⟩] false = min ((d + k - 1) / k) 50) ∧ (lookL l now sec have0 [⟨false, [d]⟩] false).p = depP k ∧ (lookL l now sec have0 [⟨false, [d]⟩] false).pause = -1 ∧ (lookL l now sec have0 [⟨false, [d]⟩] false).fails = [0] ∧ Free (lookL l now sec have0 [⟨false, [d]⟩] false).s := by
  obtain ⟨g1, g2, g3, g4, g5, g6, _⟩ := lookOk_iff.1 hk
  obtain ⟨e1, _, e3⟩ := look_fine (busy := false) hk (by omega)
  have hfs : (l.seen now [⟨false, [d]⟩]).fails = [0] := by
    show failsL l.p.trigs [⟨false, [d]⟩] l.fails = [0]
    rw [hp, hf]; rfl
  have hq : (0 : Int) ≤ (d + k - 1) / k := Int.ediv_nonneg (by omega) (by omega)
  have ht : (l.seen now [⟨false, [d]⟩]).told sec have0 [⟨false, [d]⟩] false = ((d + k - 1) / k, decide (0 < d)) := by
    show allT l.p sec have0 l.p.trigs [⟨false, [d]⟩] (l.seen now [⟨false, [d]⟩]).fails (0, false) = _
    rw [hfs, hp]
    show (max 0 (oneT (depP k) (depT k) 0 ⟨false, [d]⟩ sec have0).1, false || (oneT (depP k) (depT k) 0 ⟨false, [d]⟩ sec have0).2) = _
    rw [one_dep k1 k2 d0 d1 g5 g6]
    refine Prod.ext ?_ rfl
    show max 0 ((d + k - 1) / k) = _
    omega
  refine ⟨fun dp => ?_, ?_, ?_, ?_, ?_⟩
  · have hq1 : 1 ≤ (d + k - 1) / k := by
      have := Int.ediv_le_ediv (show 0 < k by omega) (show k ≤ d + k - 1 by omega)
      rw [Int.ediv_self (by omega)] at this; exact this
    have hw : (l.seen now [⟨false, [d]⟩]).wish now sec have0 [⟨false, [d]⟩] false = min ((d + k - 1) / k) 50 := by
      unfold Lp.wish
      rw [ht]
      show clipOf (lowOf l.p _ now have0 (decide (0 < d))) l.p.mx _ = _
      rw [hp, decide_eq_true dp]
      show min (max ((d + k - 1) / k) 1) 50 = _
      omega
    rw [e1, ht, hw, free_says hl.st hs (by
      unfold Tide.settleOk
      have := hl.sl
      simp only [Bool.and_eq_true, decide_eq_true_eq]
      omega)]
    show clipOf (lowOf l.p _ now have0 (decide (0 < d))) l.p.mx _ = _
    rw [hp, decide_eq_true dp]
    show min (max (min ((d + k - 1) / k) 50) 1) 50 = _
    omega
  · rw [e3]; show ((l.seen now _).marked now _).p = _; unfold Lp.marked; split <;> exact hp
  · rw [e3]; show ((l.seen now _).marked now _).pause = _; unfold Lp.marked; split <;> exact hpa
  · rw [e3]; show ((l.seen now _).marked now _).fails = _; unfold Lp.marked; split <;> exact hfs
  · rw [e3]; exact free_next hs
/-- a world with one queue alone, whose messages nobody takes -/
structure Dep (k : Int) (m : Wo) : Prop where
  plan : m.l.p = depP k
  paus : m.l.pause = -1
  lf : m.l.fails = [0]
  free : Free m.l.s
  fails : m.fails = [false]
  b : m.b = []
  q : ∀ x ∈ m.q, x.taken = false
  f : ∀ p ∈ m.f, p.state = 1 ∧ p.load = 0
theorem dep_new (k parts most sec : Int) : Dep k (newWo (depP k) parts most sec) := ⟨rfl, rfl, rfl, ⟨rfl, rfl, rfl, rfl⟩, rfl, rfl, fun x hx => (by cases hx), fun x hx => (by cases hx)⟩
theorem back_none {now : Int} {q : List Tide.Msg} (h : ∀ x ∈ q, x.taken = false) : Tide.backAll now q = q := by
  unfold Tide.backAll
  conv => rhs; rw [← List.map_id q]
  refine List.map_congr_left fun x hx => ?_
  have := h x hx
  unfold Tide.back
  simp [this]
theorem depth_all {now : Int} {q : List Tide.Msg} (h : ∀ x ∈ q, x.taken = false) (h0 : 0 ≤ now) (h1 : now ≤ 1099511627776) : Tide.depthNum q now = q.length := by
  unfold Tide.depthNum
  rw [if_pos (show Tide.nowOk now = true by unfold Tide.nowOk; simp; omega), back_none h]
  congr 1
  rw [List.countP_eq_length]
  intro x hx
  unfold Tide.free; simp [h x hx]
theorem dep_put {k : Int} {m : Wo} (h : Dep k m) (n : Int) : Dep k (doW m 4 0 n) := by
  have e : doW m 4 0 n = { m with q := Tide.putLst m.q m.ql n, ql := Tide.putLast m.q m.ql n } := rfl
  rw [e]
  refine ⟨h.plan, h.paus, h.lf, h.free, h.fails, h.b, fun x hx => ?_, h.f⟩
  have hx : x ∈ Tide.putLst m.q m.ql n := hx
  unfold Tide.putLst at hx
  split at hx
  · exact h.q x hx
  · split at hx
    · exact h.q x hx
    · rcases List.mem_append.1 hx with hx | hx
      · exact h.q x hx
      · unfold Tide.newMsgs at hx
        obtain ⟨i, _, rfl⟩ := List.mem_map.1 hx
        rfl
theorem put_len {m : Wo} {n : Int} : ((doW m 4 0 n).q.length : Int) = m.q.length + if doE m 4 0 n = 0 then n else 0 := by
  show ((Tide.putLst m.q m.ql n).length : Int) = m.q.length + if Tide.putErr m.q n = 0 then n else 0
  unfold Tide.putLst Tide.putErr
  split
  · simp
  · split
    · simp
    · rw [List.length_append, Tide.newMsgs_length]; simp; omega
theorem live_len {f : List Tide.Pod} (h : ∀ p ∈ f, p.state = 1 ∧ p.load = 0) : Tide.liveN f = f.length := by
  unfold Tide.liveN
  congr 1
  rw [List.countP_eq_length]
  intro x hx
  unfold Tide.lives; simp [(h x hx).1]
theorem on_none {m : Wo} (h : m.b = []) : m.on = m := by
  unfold Wo.on
  rw [h]
  show { m with b := [], f := m.f } = m
  rw [← h]
theorem dep_tick {k : Int} {m : Wo} {j : Nat} (k1 : 1 ≤ k) (k2 : k ≤ 30) (h : m.ok j) (hn : m.now < 1099511627776) (hd : Dep k m) :
    Dep k m.tick ∧ m.tick.q.length = m.q.length ∧ (0 < m.q.length → m.tick.target = min (((m.q.length : Int) + k - 1) / k) 50 ∧ (m.tick.f.length : Int) = min (((m.q.length : Int) + k - 1) / k) 50) := by
  have hl := ok_late h hn
  have h0 := h.now0
  have hb : m.late.b = [] := by show Tide.lateLst m.b (m.now + 1) = []; rw [hd.b]; unfold Tide.lateLst; split <;> rfl
  have hdue : dueB m.late.l m.late.now = true := by
    show dueB m.l (m.now + 1) = true
    have h1 := h.last
    unfold dueB
    rw [hd.plan, show (depP k).poll = 1 from rfl]
    rw [Bool.or_eq_true, Bool.and_eq_true, decide_eq_true_eq, decide_eq_true_eq]
    exact .inr (by omega)
  have hqn : (m.q.length : Int) ≤ 200 := by have := h.qn; omega
  have hdep : Tide.depthNum m.q (m.now + 1) = m.q.length := depth_all hd.q (by omega) (by omega)
  have hr : m.late.reads = [⟨false, [(m.q.length : Int)]⟩] := by
    show readsOf m.t m.q (m.now + 1) m.l.p.trigs m.fails = _
    rw [hd.plan, hd.fails]
    show [readOf (depT k) false m.t m.q (m.now + 1)] = _
    unfold readOf
    rw [if_neg (show ¬ (depT k).kind = 1 from (by decide : ¬ (2 : Int) = 1)), if_pos (show (depT k).kind = 2 from rfl), hdep]
  have hbusy : m.late.busy = false := by unfold Wo.busy; rw [hb]; decide
  have hlk := look_may hl
  rw [hr] at hlk
  obtain ⟨e1, e2, e3, e4, e5⟩ := look_dep (l := m.late.l) hl.lp hd.plan hd.paus hd.lf hd.free hlk k1 k2 (by omega) hqn
  have htold : m.late.told = lookN m.late.l m.late.now (min (m.late.sec + m.late.now) 100000000000) (Tide.liveN m.late.f) [⟨false, [(m.q.length : Int)]⟩] false := by unfold Wo.told; rw [hr, hbusy]
  have hlive : Tide.liveN (Tide.scaleLst m.late.f m.late.fl m.late.told) = m.late.told := scale_live hl hd.paus
  have hst : ∀ p ∈ Tide.scaleLst m.late.f m.late.fl m.late.told, p.state = 1 ∧ p.load = 0 := by
    refine Tide.scale_inv (fun f => ∀ p ∈ f, p.state = 1 ∧ p.load = 0) hl.crew (by have := hl.most0; omega) _ (fun p hp => ?_) (fun f la i p hc hP hi h0 x hx => hP x (List.mem_of_mem_eraseIdx hx)) (fun f la i p hc hP hi h3 => ?_)
    · rcases List.mem_append.1 hp with hp | hp
      · exact hd.f p hp
      · have := Tide.newPods_mem hp; exact ⟨this.2.2.1, this.2.2.2⟩
    · have := (hP p (List.mem_of_getElem? hi)).1; omega
  have es : m.tick = m.late.look.on := by show m.late.seen.on = _; unfold Wo.seen; rw [if_pos hdue]
  have eo : m.late.look.on = m.late.look := on_none hb
  rw [es, eo]
  refine ⟨⟨?_, ?_, ?_, ?_, hd.fails, hb, ?_, hst⟩, ?_, fun hp => ?_⟩
  · show (lookL m.late.l m.late.now _ _ m.late.reads m.late.busy).p = _; rw [hr, hbusy]; exact e2
  · show (lookL m.late.l m.late.now _ _ m.late.reads m.late.busy).pause = _; rw [hr, hbusy]; exact e3
  · show (lookL m.late.l m.late.now _ _ m.late.reads m.late.busy).fails = _; rw [hr, hbusy]; exact e4
  · show Free (lookL m.late.l m.late.now _ _ m.late.reads m.late.busy).s; rw [hr, hbusy]; exact e5
  · show ∀ x ∈ qAfter m.l.p.trigs m.q (m.now + 1), x.taken = false
    unfold qAfter Tide.nowLst
    split
    · split
      · rw [back_none hd.q]; exact hd.q
      · exact hd.q
    · exact hd.q
  · show (qAfter m.l.p.trigs m.q (m.now + 1)).length = m.q.length
    unfold qAfter Tide.nowLst
    split
    · split
      · rw [back_none hd.q]
      · rfl
    · rfl
  · have e6 := e1 (by omega)
    rw [← htold] at e6
    refine ⟨e6, ?_⟩
    show ((Tide.scaleLst m.late.f m.late.fl m.late.told).length : Int) = _
    rw [← live_len hst, hlive, e6]
end Go.Proofs.YtlfaogkdghnmcaaGreat
