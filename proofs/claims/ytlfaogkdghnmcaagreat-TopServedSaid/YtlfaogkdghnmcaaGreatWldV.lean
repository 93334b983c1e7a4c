/- Requests of one source that are done as soon as they run: the plain law of TopServed. -/
import Derived.Test.YtlfaogkdghnmcaaGreatWldK
import Derived.Test.YtlfaogkdghnmcaaGreatTpM
set_option linter.unusedVariables false
set_option linter.unusedSimpArgs false
namespace Go.Proofs.YtlfaogkdghnmcaaGreat
open Go.RowKit
/-- requests of which d are delivered and r run -/
def reqD (n d r : Nat) : List Tide.Req := (List.range n).map fun (i : Nat) => ⟨(i : Int) + 1, 2, 1000, if i < d then 3 else if i < d + r then 2 else 1, if i < d + r then 1 else 0⟩
theorem reqD_ask : ∀ k : Nat, k < 20 → Tide.askErr (reqD k 0 0) 0 2 1000 = 0 ∧ Tide.askLst (reqD k 0 0) 0 2 1000 = reqD (k + 1) 0 0 := by decide +kernel
theorem reqD_run : ∀ n : Nat, n < 21 → ∀ d : Nat, d < n → (Tide.nextN (reqD n d 0) = (d : Int) + 1 ∧ Tide.runLst (reqD n d 0) ((d : Int) + 1) 1 = reqD n d 1 ∧ Tide.nextN (reqD n d 1) = 0) ∧ (Tide.doneErr (reqD n d 1) ((d : Int) + 1) = 0 ∧ Tide.doneNum (reqD n d 1) ((d : Int) + 1) = 1 ∧ Tide.doneLst (reqD n d 1) ((d : Int) + 1) = reqD n (d + 1) 0) ∧
    decide (0 < Tide.countF (-1) 1 (reqD n d 0) + Tide.countF (-1) 2 (reqD n d 0)) = true ∧ decide (0 < Tide.countF (-1) 1 (reqD n d 1) + Tide.countF (-1) 2 (reqD n d 1)) = true := by decide +kernel
theorem reqD_end : ∀ n : Nat, n < 21 → Tide.nextN (reqD n n 0) = 0 := by decide +kernel
theorem reqD_length (n d r : Nat) : (reqD n d r).length = n := by unfold reqD; simp
theorem reqD_get {n d r i : Nat} (hi : i < n) : (reqD n d r)[i]? = some ⟨(i : Int) + 1, 2, 1000, if i < d then 3 else if i < d + r then 2 else 1, if i < d + r then 1 else 0⟩ := by
  unfold reqD
  rw [List.getElem?_map, List.getElem?_range hi]; rfl
theorem reqD_late {n d r : Nat} {now : Int} (h : now < 1000) : Tide.lateLst (reqD n d r) now = reqD n d r := by
  unfold Tide.lateLst
  split
  · conv => rhs; rw [← List.map_id (reqD n d r)]
    refine List.map_congr_left fun x hx => ?_
    unfold reqD at hx
    obtain ⟨i, _, rfl⟩ := List.mem_map.1 hx
    unfold Tide.setF Tide.isLate
    rw [if_neg]
    · rfl
    · rw [Bool.and_eq_true, decide_eq_true_eq]
      rintro ⟨_, h2⟩
      have h2 : (1000 : Int) ≤ now := h2
      omega
  · rfl
/-- what a look tells, of the plain plan, with an empty queue and somebody who waits -/
theorem look_srv {l : Lp} {j : Nat} {now sec have0 : Int} (hl : l.ok j) (hp : l.p = plainP) (hpa : l.pause = -1) (hf : l.fails = [0]) (hs : Free l.s) (b : Bool) (hk : lookOk l now sec have0 [(⟨false, [0]⟩ : Rd)].length = true) :
    (b = true → lookN l now sec have0 [⟨false, [0]⟩] b = 1) ∧ (lookL l now sec have0 [⟨false, [0]⟩] b).p = plainP ∧ (lookL l now sec have0 [⟨false, [0]⟩] b).pause = -1 ∧ (lookL l now sec have0 [⟨false, [0]⟩] b).fails = [0] ∧ Free (lookL l now sec have0 [⟨false, [0]⟩] b).s := by
  obtain ⟨g1, g2, g3, g4, g5, g6, _⟩ := lookOk_iff.1 hk
  obtain ⟨e1, _, e3⟩ := look_fine (busy := b) hk (by omega)
  have hfs : (l.seen now [⟨false, [0]⟩]).fails = [0] := by
    show failsL l.p.trigs [⟨false, [0]⟩] l.fails = [0]
    rw [hp, hf]; rfl
  have ho : oneT plainP plainT 0 ⟨false, [0]⟩ sec have0 = (0, false) := by
    have := one_dep (k := 10) (d := 0) (sec := sec) (have0 := have0) (by omega) (by omega) (by omega) (by omega) g5 g6
    exact this
  have ht : (l.seen now [⟨false, [0]⟩]).told sec have0 [⟨false, [0]⟩] b = (0, b) := by
    show allT l.p sec have0 l.p.trigs [⟨false, [0]⟩] (l.seen now [⟨false, [0]⟩]).fails (0, b) = _
    rw [hfs, hp]
    show (max 0 (oneT plainP plainT 0 ⟨false, [0]⟩ sec have0).1, b || (oneT plainP plainT 0 ⟨false, [0]⟩ sec have0).2) = _
    rw [ho]
    refine Prod.ext rfl ?_
    show (b || false) = b
    rw [Bool.or_false]
  refine ⟨fun hb => ?_, ?_, ?_, ?_, ?_⟩
  · subst hb
    have hw : (l.seen now [⟨false, [0]⟩]).wish now sec have0 [⟨false, [0]⟩] true = 1 := by
      unfold Lp.wish
      rw [ht]
      show clipOf (lowOf l.p _ now have0 true) l.p.mx _ = _
      rw [hp]; rfl
    rw [e1, ht, hw, free_says hl.st hs (by
      unfold Tide.settleOk
      have := hl.sl
      simp only [Bool.and_eq_true, decide_eq_true_eq]
      omega)]
    show clipOf (lowOf l.p _ now have0 true) l.p.mx _ = _
    rw [hp]; rfl
  · rw [e3]; show ((l.seen now _).marked now _).p = _; unfold Lp.marked; split <;> exact hp
  · rw [e3]; show ((l.seen now _).marked now _).pause = _; unfold Lp.marked; split <;> exact hpa
  · rw [e3]; show ((l.seen now _).marked now _).fails = _; unfold Lp.marked; split <;> exact hfs
  · rw [e3]; exact free_next hs
/-- the plain plan's world, with an empty queue -/
structure Srv (m : Wo) : Prop where
  plan : m.l.p = plainP
  paus : m.l.pause = -1
  lf : m.l.fails = [0]
  free : Free m.l.s
  fails : m.fails = [false]
  q : m.q = []
section
variable {m : Wo} {j : Nat}
theorem Srv.reads (h : Srv m) (h0 : 0 ≤ m.now) (h1 : m.now ≤ 1099511627776) : m.reads = [⟨false, [0]⟩] := by
  show readsOf m.t m.q m.now m.l.p.trigs m.fails = _
  rw [h.plan, h.fails, h.q]
  show [readOf plainT false m.t [] m.now] = _
  unfold readOf
  rw [if_neg (show ¬ plainT.kind = 1 from (by decide : ¬ (2 : Int) = 1)), if_pos (show plainT.kind = 2 from rfl)]
  unfold Tide.depthNum
  split <;> rfl
theorem Srv.q_none (h : Srv m) : qAfter m.l.p.trigs m.q m.now = [] := by
  rw [h.q]
  unfold qAfter Tide.nowLst
  split
  · split <;> rfl
  · rfl
theorem srv_seen (h : m.ok j) (hs : Srv m) : Srv m.seen := by
  unfold Wo.seen
  split
  · have hr := hs.reads h.now0 h.now1
    have hlk := look_may h
    rw [hr] at hlk
    obtain ⟨_, e2, e3, e4, e5⟩ := look_srv h.lp hs.plan hs.paus hs.lf hs.free m.busy hlk
    refine ⟨?_, ?_, ?_, ?_, hs.fails, hs.q_none⟩
    · show (lookL _ _ _ _ m.reads _).p = _; rw [hr]; exact e2
    · show (lookL _ _ _ _ m.reads _).pause = _; rw [hr]; exact e3
    · show (lookL _ _ _ _ m.reads _).fails = _; rw [hr]; exact e4
    · show Free (lookL _ _ _ _ m.reads _).s; rw [hr]; exact e5
  · exact hs
theorem srv_told (h : m.ok j) (hs : Srv m) (hb : m.busy = true) : m.told = 1 := by
  have hr := hs.reads h.now0 h.now1
  have hlk := look_may h
  rw [hr] at hlk
  obtain ⟨e1, _⟩ := look_srv h.lp hs.plan hs.paus hs.lf hs.free m.busy hlk
  unfold Wo.told
  rw [hr]; exact e1 hb
theorem srv_late (hs : Srv m) : Srv m.late := ⟨hs.plan, hs.paus, hs.lf, hs.free, hs.fails, hs.q⟩
theorem srv_on (hs : Srv m) : Srv m.on := ⟨hs.plan, hs.paus, hs.lf, hs.free, hs.fails, hs.q⟩
theorem srv_tick (h : m.ok j) (hn : m.now < 1099511627776) (hs : Srv m) : Srv m.tick := srv_on (srv_seen (ok_late h hn) (srv_late hs))
theorem seen_b (m : Wo) : m.seen.b = m.b ∧ m.seen.now = m.now ∧ m.seen.most = m.most := by unfold Wo.seen; split <;> exact ⟨rfl, rfl, rfl⟩
theorem on_stop (h : onGoes m.most m.b m.f = false) : m.on.b = m.b ∧ m.on.f = m.f := by
  have e := onN_stop (x := (m.b, m.f)) h m.b.length
  refine ⟨?_, ?_⟩
  · show (onN m.most m.b.length (m.b, m.f)).1 = _; rw [e]
  · show (onN m.most m.b.length (m.b, m.f)).2 = _; rw [e]
theorem goes_none {most : Int} {b : List Tide.Req} {f : List Tide.Pod} (h : Tide.nextN b = 0) : onGoes most b f = false := by unfold onGoes; rw [h]; rfl
/-- a tick with nobody to be handed on -/
theorem tick_calm (h : m.ok j) (hn : m.now < 1099511627776) {n d r : Nat} (hb : m.b = reqD n d r) (h9 : m.now + 1 < 1000) (hx : Tide.nextN (reqD n d r) = 0) : m.tick.b = reqD n d r := by
  have e1 : m.late.b = reqD n d r := by show Tide.lateLst m.b (m.now + 1) = _; rw [hb]; exact reqD_late h9
  have e2 := (seen_b m.late).1
  have e3 := (on_stop (m := m.late.seen) (goes_none (by rw [e2, e1]; exact hx))).1
  show m.late.seen.on.b = _
  rw [e3, e2, e1]
/-- the first tick: one pod is made -/
theorem tick_first (h : m.ok j) (hs : Srv m) (h0 : m.now = 0) (hl : m.l.looked = false) (hf : m.f = []) (hfl : m.fl = 0) {n : Nat} (hn : n < 21) (hn0 : 0 < n) (hb : m.b = reqD n 0 0) : m.tick.b = reqD n 0 0 ∧ m.tick.f = [⟨1, 1, 0⟩] := by
  have hk := ok_late h (by omega)
  have e1 : m.late.b = reqD n 0 0 := by show Tide.lateLst m.b (m.now + 1) = _; rw [hb]; exact reqD_late (by omega)
  have hbusy : m.late.busy = true := by unfold Wo.busy; rw [e1]; exact (reqD_run n hn 0 hn0).2.2.1
  have ht := srv_told hk (srv_late hs) hbusy
  have hdue : dueB m.late.l m.late.now = true := by show dueB m.l _ = true; unfold dueB; rw [hl]; rfl
  have es : m.late.seen = m.late.look := by unfold Wo.seen; rw [if_pos hdue]
  have ef : m.late.look.f = [⟨1, 1, 0⟩] := by
    show Tide.scaleLst m.f m.fl m.late.told = _
    rw [ht, hf, hfl]; decide +kernel
  have hg : onGoes m.late.look.most m.late.look.b m.late.look.f = false := by
    unfold onGoes; rw [ef, Bool.and_eq_false_iff]; right; rfl
  obtain ⟨o1, o2⟩ := on_stop hg
  show m.late.seen.on.b = _ ∧ m.late.seen.on.f = _
  rw [es, o1, o2]
  exact ⟨e1, ef⟩
/-- a tick with one that runs -/
theorem tick_runs (h : m.ok j) (hs : Srv m) (h9 : m.now + 1 < 1000) {n d : Nat} (hn : n < 21) (hd : d < n) (hb : m.b = reqD n d 1) (hf : m.f = [⟨1, 3, 1⟩]) : m.tick.b = reqD n d 1 ∧ m.tick.f = [⟨1, 3, 1⟩] := by
  have hk := ok_late h (by omega)
  have e1 : m.late.b = reqD n d 1 := by show Tide.lateLst m.b (m.now + 1) = _; rw [hb]; exact reqD_late h9
  have hbusy : m.late.busy = true := by unfold Wo.busy; rw [e1]; exact (reqD_run n hn d hd).2.2.2
  have ht := srv_told hk (srv_late hs) hbusy
  have ef : m.late.seen.f = [⟨1, 3, 1⟩] := by
    unfold Wo.seen
    split
    · show Tide.scaleLst m.f m.fl m.late.told = _
      rw [ht, hf]; rfl
    · exact hf
  have e2 := (seen_b m.late).1
  obtain ⟨o1, o2⟩ := on_stop (m := m.late.seen) (goes_none (by rw [e2, e1]; exact (reqD_run n hn d hd).1.2.2))
  show m.late.seen.on.b = _ ∧ m.late.seen.on.f = _
  rw [o1, o2, e2]
  exact ⟨e1, ef⟩
/-- handing on to the one pod -/
theorem on_runs {n d : Nat} (hn : n < 21) (hd : d < n) (hb : m.b = reqD n d 0) (hf : m.f = [⟨1, 3, 0⟩]) (hm : 1 ≤ m.most) : m.on.b = reqD n d 1 ∧ m.on.f = [⟨1, 3, 1⟩] := by
  obtain ⟨r1, r2, r3⟩ := (reqD_run n hn d hd).1
  have hat : Tide.giveAt [⟨1, 3, 0⟩] m.most = some 0 := by
    show (if m.most ≤ 0 then none else some 0) = some 0
    rw [if_neg (by omega)]
  have hg : onGoes m.most m.b m.f = true := by
    unfold onGoes Tide.giveErr
    rw [hb, hf, hat, r1]
    simp only [Bool.and_eq_true, decide_eq_true_eq]
    exact ⟨by omega, rfl⟩
  have hlen : m.b.length = (n - 1) + 1 := by rw [hb, reqD_length]; omega
  have e := onN_go (x := (m.b, m.f)) hg (n - 1)
  have hnum : Tide.giveNum m.f m.most = 1 := by unfold Tide.giveNum; rw [hf, hat]; rfl
  have hlst : Tide.giveLst m.f m.most = [⟨1, 3, 1⟩] := by unfold Tide.giveLst; rw [hf, hat]; rfl
  simp only at e
  rw [hnum, hlst, hb, r1, r2, onN_stop (x := (reqD n d 1, [⟨1, 3, 1⟩])) (goes_none r3)] at e
  refine ⟨?_, ?_⟩
  · show (onN m.most m.b.length (m.b, m.f)).1 = _; rw [hlen, hb, e]
  · show (onN m.most m.b.length (m.b, m.f)).2 = _; rw [hlen, hb, e]
/-- what no call but a tick, or a put, makes more of -/
theorem okStart (h : m.ok j) (n : Int) : (doW m 8 0 n).ok j := by
  have hst := h.crew.turn n 1 2 (.inl ⟨rfl, rfl⟩)
  show ({ m with f := Tide.turnLst m.f n 1 2 } : Wo).ok j
  exact { h with crew := hst.1, live := by show Tide.liveN (Tide.turnLst _ _ _ _) ≤ 50; rw [Tide.live_turn _ _ _ _ (by omega) (by omega)]; exact h.live, fn := by show (Tide.turnLst _ _ _ _).length ≤ _; rw [hst.2.2]; exact h.fn }
theorem okReady (h : m.ok j) (n : Int) : (doW m 9 0 n).ok j := by
  have hrd := h.crew.turn n 2 3 (.inr ⟨rfl, rfl⟩)
  show (if Tide.turnErr m.f n 2 = 0 then ({ m with f := Tide.turnLst m.f n 2 3 } : Wo).on else m).ok j
  split
  · exact ok_on { h with crew := hrd.1, live := by show Tide.liveN (Tide.turnLst _ _ _ _) ≤ 50; rw [Tide.live_turn _ _ _ _ (by omega) (by omega)]; exact h.live, fn := by show (Tide.turnLst _ _ _ _).length ≤ _; rw [hrd.2.2]; exact h.fn }
  · exact h
theorem okAsk (h : m.ok j) (a n : Int) : (doW m 11 a n).ok j := by
  show (if Tide.askErr m.b m.now a n = 0 then ({ m with b := Tide.askLst m.b m.now a n } : Wo).on else m).ok j
  split
  · exact ok_on { h with fair := (Tide.fair_ask h.fair _ _ _).1, bn := Tide.ask_length h.bn _ _ _ }
  · exact h
theorem okDone (h : m.ok j) (n : Int) : (doW m 12 0 n).ok j := by
  have hd := h.crew.done (Tide.doneNum m.b n)
  show (if Tide.doneErr m.b n = 0 then (doneW m n).on else m).ok j
  split
  · exact ok_on (m := doneW m n) { h with crew := hd.1, live := Int.le_trans (Tide.live_podDone _ _) h.live, fn := Nat.le_trans hd.2.2 h.fn, fair := (Tide.fair_done h.fair _).1, bn := by show (Tide.doneLst _ _).length ≤ 200; rw [Tide.reqDone_length]; exact h.bn }
  · exact h
theorem srv_do (hs : Srv m) : (∀ n, Srv (doW m 8 0 n)) ∧ (∀ n, Srv (doW m 9 0 n)) ∧ (∀ a n, Srv (doW m 11 a n)) ∧ (∀ n, Srv (doW m 12 0 n)) := by
  refine ⟨fun n => ?_, fun n => ?_, fun a n => ?_, fun n => ?_⟩
  · exact ⟨hs.plan, hs.paus, hs.lf, hs.free, hs.fails, hs.q⟩
  · show Srv (if Tide.turnErr m.f n 2 = 0 then ({ m with f := Tide.turnLst m.f n 2 3 } : Wo).on else m)
    split
    · exact ⟨hs.plan, hs.paus, hs.lf, hs.free, hs.fails, hs.q⟩
    · exact hs
  · show Srv (if Tide.askErr m.b m.now a n = 0 then ({ m with b := Tide.askLst m.b m.now a n } : Wo).on else m)
    split
    · exact ⟨hs.plan, hs.paus, hs.lf, hs.free, hs.fails, hs.q⟩
    · exact hs
  · show Srv (if Tide.doneErr m.b n = 0 then (doneW m n).on else m)
    split
    · exact ⟨hs.plan, hs.paus, hs.lf, hs.free, hs.fails, hs.q⟩
    · exact hs
theorem do_time : (∀ n, (doW m 8 0 n).now = m.now) ∧ (∀ n, (doW m 9 0 n).now = m.now) ∧ (∀ n, (doW m 12 0 n).now = m.now) ∧ (∀ n, (doW m 8 0 n).b = m.b) := by
  refine ⟨fun _ => rfl, fun n => ?_, fun n => ?_, fun _ => rfl⟩
  · show (if Tide.turnErr m.f n 2 = 0 then ({ m with f := Tide.turnLst m.f n 2 3 } : Wo).on else m).now = _
    split <;> rfl
  · show (if Tide.doneErr m.b n = 0 then (doneW m n).on else m).now = _
    split <;> rfl
theorem ready_calm {n : Int} (h : Tide.nextN m.b = 0) : (doW m 9 0 n).b = m.b := by
  show (if Tide.turnErr m.f n 2 = 0 then ({ m with f := Tide.turnLst m.f n 2 3 } : Wo).on else m).b = _
  split
  · exact (on_stop (m := { m with f := Tide.turnLst m.f n 2 3 }) (goes_none h)).1
  · rfl
end
/-- a world behind so many requests -/
def askN (m : Wo) : Nat → Wo
  | 0 => m
  | k + 1 => doW (askN m k) 11 2 1000
def podStep (m : Wo) (p : Tide.Pod) : Wo := doW (doW m 8 0 p.id) 9 0 p.id
def reqStep (x : Wo × Int) (r : Tide.Req) : Wo × Int := if r.fate = 2 then (doW x.1 12 0 r.id, x.2 + 1) else x
theorem ok_pods {j : Nat} : ∀ {l : List Tide.Pod} {m : Wo}, m.ok j → (l.foldl podStep m).ok j
  | [], _, h => h
  | p :: l, m, h => ok_pods (l := l) (m := podStep m p) (okReady (okStart h _) _)
theorem ok_reqs {j : Nat} : ∀ {l : List Tide.Req} {x : Wo × Int}, x.1.ok j → (l.foldl reqStep x).1.ok j
  | [], _, h => h
  | r :: l, x, h => by
    refine ok_reqs (l := l) (x := reqStep x r) ?_
    unfold reqStep; split
    · exact okDone h _
    · exact h
/-- before the first tick -/
structure Asked (m : Wo) (k : Nat) : Prop where
  ok : m.ok 0
  srv : Srv m
  now : m.now = 0
  looked : m.l.looked = false
  f : m.f = []
  fl : m.fl = 0
  b : m.b = reqD k 0 0
theorem asked_new (most : Int) : Asked (newWo plainP 1 most 0) 0 := ⟨ok_new plainP_ok plainP_fits (by omega) (by omega) (by omega), ⟨rfl, rfl, rfl, ⟨rfl, rfl, rfl, rfl⟩, rfl, rfl⟩, rfl, rfl, rfl, rfl, rfl⟩
theorem asked_next {m : Wo} {k : Nat} (h : Asked m k) (hk : k < 20) : doE m 11 2 1000 = 0 ∧ Asked (doW m 11 2 1000) (k + 1) := by
  obtain ⟨e1, e2⟩ := reqD_ask k hk
  have hE : Tide.askErr m.b m.now 2 1000 = 0 := by rw [h.b, h.now]; exact e1
  have hW : doW m 11 2 1000 = ({ m with b := Tide.askLst m.b m.now 2 1000 } : Wo).on := by
    show (if Tide.askErr m.b m.now 2 1000 = 0 then ({ m with b := Tide.askLst m.b m.now 2 1000 } : Wo).on else m) = _
    rw [if_pos hE]
  have hO := okAsk h.ok 2 1000
  have hS := (srv_do h.srv).2.2.1 2 1000
  have hg : onGoes ({ m with b := Tide.askLst m.b m.now 2 1000 } : Wo).most ({ m with b := Tide.askLst m.b m.now 2 1000 } : Wo).b ({ m with b := Tide.askLst m.b m.now 2 1000 } : Wo).f = false := by
    unfold onGoes
    rw [show ({ m with b := Tide.askLst m.b m.now 2 1000 } : Wo).f = [] from h.f, Bool.and_eq_false_iff]; right; rfl
  obtain ⟨o1, o2⟩ := on_stop hg
  rw [hW] at hO hS ⊢
  refine ⟨hE, hO, hS, h.now, h.looked, o2.trans h.f, h.fl, o1.trans ?_⟩
  show Tide.askLst m.b m.now 2 1000 = _
  rw [h.b, h.now]; exact e2
/-- behind j rounds -/
structure Rounds (n j : Nat) (x : Wo × Int) : Prop where
  ok : x.1.ok j
  srv : Srv x.1
  now : x.1.now = j
  next : x.2 = (min j n : Nat) + 1
  zero : j = 0 → Asked x.1 n
  some0 : 0 < j → j < n → x.1.b = reqD n j 1 ∧ x.1.f = [⟨1, 3, 1⟩]
  last : n ≤ j → x.1.b = reqD n n 0
theorem rounds_zero {m : Wo} {n : Nat} (h : Asked m n) (hn : 0 < n) : Rounds n 0 (m, 1) := ⟨h.ok, h.srv, h.now, by simp, fun _ => h, fun h0 => absurd h0 (by omega), fun h0 => absurd h0 (by omega)⟩
/-- in a round, behind the tick and the pods -/
structure Amid (n j : Nat) (m : Wo) : Prop where
  ok : m.ok (j + 1)
  srv : Srv m
  now : m.now = (j : Int) + 1
  runs : j < n → m.b = reqD n j 1 ∧ m.f = [⟨1, 3, 1⟩]
  last : n ≤ j → m.b = reqD n n 0
theorem pods_end {n : Nat} {now : Int} (hx : Tide.nextN (reqD n n 0) = 0) : ∀ {l : List Tide.Pod} {m : Wo}, Srv m → m.now = now → m.b = reqD n n 0 → Srv (l.foldl podStep m) ∧ (l.foldl podStep m).now = now ∧ (l.foldl podStep m).b = reqD n n 0
  | [], _, h1, h2, h3 => ⟨h1, h2, h3⟩
  | p :: l, m, h1, h2, h3 => by
    have hb : (doW m 8 0 p.id).b = reqD n n 0 := h3
    refine pods_end hx (l := l) (m := podStep m p) ((srv_do ((srv_do h1).1 p.id)).2.1 p.id) ?_ ?_
    · show (doW (doW m 8 0 p.id) 9 0 p.id).now = _
      rw [do_time.2.1]; exact h2
    · show (doW (doW m 8 0 p.id) 9 0 p.id).b = _
      rw [ready_calm (by rw [hb]; exact hx), hb]
theorem do_tick1 {m : Wo} (h0 : 0 ≤ m.now) (h1 : m.now < 1000) : doE m 1 0 1 = 0 ∧ doW m 1 0 1 = m.tick := by
  have e : tickE m 1 = 0 := by unfold tickE; rw [if_neg (by omega)]
  refine ⟨e, ?_⟩
  show (if tickE m 1 = 0 then ticksN 1 m else m) = _
  rw [if_pos e]; rfl
theorem round_amid {n j : Nat} {x : Wo × Int} (h : Rounds n j x) (hn : n < 21) (hn0 : 0 < n) (hj : j < 100) : (doW x.1 1 0 1).ok (j + 1) ∧ Amid n j ((doW x.1 1 0 1).f.foldl podStep (doW x.1 1 0 1)) := by
  have hnow := h.now
  obtain ⟨_, e1⟩ := do_tick1 (m := x.1) (by omega) (by omega)
  rw [e1]
  have hok := ok_tick h.ok (by omega)
  have hsr := srv_tick h.ok (by omega) h.srv
  have htn : x.1.tick.now = (j : Int) + 1 := by rw [tick_now, hnow]
  have hm1 := h.ok.most0
  refine ⟨hok, ?_⟩
  by_cases hjn : j < n
  · have hm2 : x.1.tick.most = x.1.most := by show x.1.late.seen.most = _; rw [(seen_b _).2.2]; rfl
    have hs : x.1.tick.b = reqD n j 0 ∧ x.1.tick.f = [⟨1, 1, 0⟩] ∨ x.1.tick.b = reqD n j 1 ∧ x.1.tick.f = [⟨1, 3, 1⟩] := by
      rcases Nat.eq_zero_or_pos j with h0 | h0
      · have hA := h.zero h0
        subst h0
        exact .inl (tick_first h.ok hA.srv hA.now hA.looked hA.f hA.fl hn hn0 hA.b)
      · obtain ⟨b1, b2⟩ := h.some0 h0 hjn
        exact .inr (tick_runs h.ok h.srv (by omega) hn hjn b1 b2)
    generalize x.1.tick = m at hok hsr htn hm2 hs ⊢
    have hokp := ok_pods (l := m.f) hok
    have hfin : ∀ m2 : Wo, m2.b = reqD n j 1 → m2.f = [⟨1, 3, 1⟩] → Srv m2 → m2.now = (j : Int) + 1 → m2.ok (j + 1) → Amid n j m2 := fun m2 a b c d e => ⟨e, c, d, fun _ => ⟨a, b⟩, fun hl => absurd hl (by omega)⟩
    rcases hs with ⟨hb, hf⟩ | ⟨hb, hf⟩
    · rw [hf] at hokp ⊢
      have hE : Tide.turnErr (doW m 8 0 1).f 1 2 = 0 := by show Tide.turnErr (Tide.turnLst m.f 1 1 2) 1 2 = 0; rw [hf]; rfl
      have hW : doW (doW m 8 0 1) 9 0 1 = ({ doW m 8 0 1 with f := Tide.turnLst (doW m 8 0 1).f 1 2 3 } : Wo).on := by
        show (if Tide.turnErr (doW m 8 0 1).f 1 2 = 0 then _ else _) = _
        rw [if_pos hE]
      have hf3 : ({ doW m 8 0 1 with f := Tide.turnLst (doW m 8 0 1).f 1 2 3 } : Wo).f = [⟨1, 3, 0⟩] := by
        show Tide.turnLst (Tide.turnLst m.f 1 1 2) 1 2 3 = _
        rw [hf]; rfl
      obtain ⟨o1, o2⟩ := on_runs (m := { doW m 8 0 1 with f := Tide.turnLst (doW m 8 0 1).f 1 2 3 }) hn hjn hb hf3 (by show 1 ≤ m.most; omega)
      have hp : [(⟨1, 1, 0⟩ : Tide.Pod)].foldl podStep m = doW (doW m 8 0 1) 9 0 1 := rfl
      rw [hp] at hokp ⊢
      refine hfin _ (by rw [hW]; exact o1) (by rw [hW]; exact o2) ((srv_do ((srv_do hsr).1 1)).2.1 1) ?_ hokp
      rw [do_time.2.1]; exact htn
    · rw [hf] at hokp ⊢
      have hp : [(⟨1, 3, 1⟩ : Tide.Pod)].foldl podStep m = doW (doW m 8 0 1) 9 0 1 := rfl
      rw [hp] at hokp ⊢
      have hf8 : (doW m 8 0 1).f = [⟨1, 3, 1⟩] := by show Tide.turnLst m.f 1 1 2 = _; rw [hf]; rfl
      have hE : ¬ Tide.turnErr (doW m 8 0 1).f 1 2 = 0 := by rw [hf8]; decide
      have hW : doW (doW m 8 0 1) 9 0 1 = doW m 8 0 1 := by
        show (if Tide.turnErr (doW m 8 0 1).f 1 2 = 0 then _ else _) = _
        rw [if_neg hE]
      refine hfin _ (by rw [hW]; exact hb) (by rw [hW]; exact hf8) ((srv_do ((srv_do hsr).1 1)).2.1 1) ?_ hokp
      rw [do_time.2.1]; exact htn
  · have hx := reqD_end n hn
    have hb := tick_calm h.ok (by omega) (h.last (by omega)) (by omega) hx
    obtain ⟨p1, p2, p3⟩ := pods_end (now := (j : Int) + 1) hx (l := x.1.tick.f) hsr htn hb
    exact ⟨ok_pods hok, p1, p2, fun c => absurd c hjn, fun _ => p3⟩
theorem reqs_fold {n j : Nat} (hj : j < n) (m : Wo) (nx : Int) : ∀ i : Nat, i ≤ n → ((reqD n j 1).take i).foldl reqStep (m, nx) = if i ≤ j then (m, nx) else (doW m 12 0 ((j : Int) + 1), nx + 1)
  | 0, _ => by rw [if_pos (by omega)]; rfl
  | i + 1, hi => by
    have ih := reqs_fold hj m nx i (by omega)
    rw [Tide.fold_snoc (reqD_get (d := j) (r := 1) (show i < n by omega)), ih]
    unfold reqStep
    by_cases c1 : i < j
    · rw [if_pos (show i ≤ j by omega), if_pos (show i + 1 ≤ j by omega), if_neg]
      show ¬ (if i < j then (3 : Int) else _) = 2
      rw [if_pos c1]; decide
    · by_cases c2 : i = j
      · subst c2
        rw [if_pos (show i ≤ i by omega), if_neg (show ¬ i + 1 ≤ i by omega), if_pos]
        show (if i < i then (3 : Int) else if i < i + 1 then 2 else 1) = 2
        rw [if_neg (by omega), if_pos (by omega)]
      · rw [if_neg (show ¬ i ≤ j by omega), if_neg (show ¬ i + 1 ≤ j by omega), if_neg]
        show ¬ (if i < j then (3 : Int) else if i < j + 1 then 2 else 1) = 2
        rw [if_neg c1, if_neg (by omega)]; decide
theorem reqs_end {n : Nat} (x : Wo × Int) : ∀ i : Nat, i ≤ n → ((reqD n n 0).take i).foldl reqStep x = x
  | 0, _ => rfl
  | i + 1, hi => by
    have ih := reqs_end (n := n) x i (by omega)
    rw [Tide.fold_snoc (reqD_get (d := n) (r := 0) (show i < n by omega)), ih]
    unfold reqStep
    rw [if_neg]
    show ¬ (if i < n then (3 : Int) else _) = 2
    rw [if_pos (by omega)]; decide
theorem round_reqs {n j : Nat} {x : Wo × Int} {m : Wo} (h : Rounds n j x) (hm : Amid n j m) (hn : n < 21) :
    (∀ (i : Nat) (r : Tide.Req), m.b[i]? = some r → r.fate = 2 → r.id = ((m.b.take i).foldl reqStep (m, x.2)).2 ∧ doE ((m.b.take i).foldl reqStep (m, x.2)).1 12 0 r.id = 0) ∧ (∀ i : Nat, ((m.b.take i).foldl reqStep (m, x.2)).1.ok (j + 1)) ∧ Rounds n (j + 1) (m.b.foldl reqStep (m, x.2)) := by
  have hnx := h.next
  by_cases hj : j < n
  · obtain ⟨hb, hf⟩ := hm.runs hj
    obtain ⟨_, ⟨d1, d2, d3⟩, _⟩ := reqD_run n hn j hj
    have hE : Tide.doneErr m.b ((j : Int) + 1) = 0 := by rw [hb]; exact d1
    have hW : doW m 12 0 ((j : Int) + 1) = (doneW m ((j : Int) + 1)).on := by
      show (if Tide.doneErr m.b ((j : Int) + 1) = 0 then _ else _) = _
      rw [if_pos hE]
    have hb1 : (doneW m ((j : Int) + 1)).b = reqD n (j + 1) 0 := by show Tide.doneLst m.b _ = _; rw [hb]; exact d3
    have hf1 : (doneW m ((j : Int) + 1)).f = [⟨1, 3, 0⟩] := by
      show Tide.podDoneLst m.f (Tide.doneNum m.b _) = _
      rw [hb, d2, hf]; decide +kernel
    refine ⟨fun i r hr h2 => ?_, fun i => ok_reqs (x := (m, x.2)) hm.ok, ?_⟩
    · have hin : i < n := by have := Tide.get_lt hr; rw [hb, reqD_length] at this; exact this
      rw [hb, reqD_get hin] at hr
      cases hr
      have hij : i = j := by
        have h2 : (if i < j then (3 : Int) else if i < j + 1 then 2 else 1) = 2 := h2
        by_cases c1 : i < j
        · rw [if_pos c1] at h2; cases h2
        · rw [if_neg c1] at h2
          by_cases c2 : i < j + 1
          · omega
          · rw [if_neg c2] at h2; cases h2
      subst hij
      rw [hb, reqs_fold hj m x.2 i (by omega), if_pos (Nat.le_refl _)]
      refine ⟨?_, hE⟩
      show (i : Int) + 1 = x.2
      rw [hnx, Nat.min_eq_left (by omega)]
    · have hfull : m.b.foldl reqStep (m, x.2) = (doW m 12 0 ((j : Int) + 1), x.2 + 1) := by
        have := reqs_fold hj m x.2 n (Nat.le_refl _)
        rw [List.take_of_length_le (by rw [reqD_length]; exact Nat.le_refl _), if_neg (by omega)] at this
        rw [hb]; exact this
      have hok := okDone hm.ok ((j : Int) + 1)
      have hsr := (srv_do hm.srv).2.2.2 ((j : Int) + 1)
      have hnw := (do_time (m := m)).2.2.1 ((j : Int) + 1)
      rw [hfull]
      refine ⟨hok, hsr, ?_, ?_, fun h0 => absurd h0 (by omega), fun _ hjn => ?_, fun hjn => ?_⟩
      · show (doW m 12 0 _).now = _
        rw [hnw, hm.now]; omega
      · show x.2 + 1 = _
        rw [hnx]; omega
      · show (doW m 12 0 _).b = _ ∧ (doW m 12 0 _).f = _
        rw [hW]
        exact on_runs hn hjn hb1 hf1 (by show 1 ≤ m.most; exact hm.ok.most0)
      · show (doW m 12 0 _).b = _
        have hje : j + 1 = n := by omega
        rw [hje] at hb1
        rw [hW, (on_stop (goes_none (by rw [hb1]; exact reqD_end n hn))).1, hb1]
  · have hb := hm.last (by omega)
    have hfull : m.b.foldl reqStep (m, x.2) = (m, x.2) := by
      have := reqs_end (n := n) (m, x.2) n (Nat.le_refl _)
      rw [List.take_of_length_le (by rw [reqD_length]; exact Nat.le_refl _)] at this
      rw [hb]; exact this
    refine ⟨fun i r hr h2 => ?_, fun i => ok_reqs (x := (m, x.2)) hm.ok, ?_⟩
    · have hin : i < n := by have := Tide.get_lt hr; rw [hb, reqD_length] at this; exact this
      rw [hb, reqD_get hin] at hr
      cases hr
      have h2 : (if i < n then (3 : Int) else if i < n + 0 then 2 else 1) = 2 := h2
      rw [if_pos hin] at h2; cases h2
    · rw [hfull]
      exact ⟨hm.ok, hm.srv, by show m.now = _; rw [hm.now]; omega, by show x.2 = _; rw [hnx]; omega, fun h0 => absurd h0 (by omega), fun _ hjn => absurd hjn (by omega), fun _ => hb⟩
theorem reqs_all {n : Nat} : ((reqD n n 0).any fun r => !(r.fate == 3)) = false := by
  rw [List.any_eq_false]
  intro r hr
  unfold reqD at hr
  obtain ⟨i, hi, rfl⟩ := List.mem_map.1 hr
  have hi := List.mem_range.1 hi
  show ¬ (!((if i < n then (3 : Int) else _) == 3)) = true
  rw [if_pos hi]; decide
end Go.Proofs.YtlfaogkdghnmcaaGreat
