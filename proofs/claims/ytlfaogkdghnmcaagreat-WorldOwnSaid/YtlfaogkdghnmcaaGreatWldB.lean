/- The parts' contracts, of a world in memory. -/
import Derived.Test.YtlfaogkdghnmcaaGreatWldA
set_option linter.unusedVariables false
set_option linter.unusedSimpArgs false
namespace Go.Proofs.YtlfaogkdghnmcaaGreat
open Go.RowKit
section
variable {R : Nat → Prop} {p : Wp} {m : Wo}
theorem two_loads {l : List Tide.Pod} {a b : Int} (h : Tide.Crewed l a b) (hb : b ≤ 100) : ∀ p ∈ l, 0 ≤ p.load ∧ p.load ≤ 1000 := fun p hp => by have := h.loads p hp; omega
theorem woPut (n : Int) (w : World) (h : WoN R w p m) (l0 : 0 ≤ m.ql) (l1 : m.ql ≤ 4000000000000000000) :
    Calls Tryz.prog 54 #[.pointer (some ⟨p.gq, 0, none⟩), .int .i64 n] w fun e w' => e = .returned (.tuple #[.int .i64 (Tide.putNum m.q m.ql n), .int .i64 (Tide.putErr m.q n)]) ∧ WoC R w w' p { m with q := Tide.putLst m.q m.ql n, ql := Tide.putLast m.q m.ql n } := by
  obtain ⟨a, ha, hR⟩ := h
  refine (quePut _ p.gq a.vq m.q m.ql n w ha.qu l0 l1).mono ?_
  rintro e w' ⟨he, ⟨v', hq⟩, hc⟩
  exact ⟨he, WoN.queue ha hR hq hc⟩
theorem woLease (now n : Int) (w : World) (h : WoN R w p m) :
    Calls Tryz.prog 55 #[.pointer (some ⟨p.gq, 0, none⟩), .int .i64 now, .int .i64 n] w fun e w' => e = .returned (.tuple #[.int .i64 (Tide.leaseNum m.q now n), .int .i64 (Tide.leaseErr m.q now n)]) ∧ WoC R w w' p { m with q := Tide.leaseLst m.q now n } := by
  obtain ⟨a, ha, hR⟩ := h
  refine (queLease _ p.gq a.vq m.q m.ql now n w ha.qu).mono ?_
  rintro e w' ⟨he, hq, hc⟩
  exact ⟨he, WoN.queue ha hR hq.up hc⟩
theorem woAck (now n : Int) (w : World) (h : WoN R w p m) :
    Calls Tryz.prog 56 #[.pointer (some ⟨p.gq, 0, none⟩), .int .i64 now, .int .i64 n] w fun e w' => e = .returned (.int .i64 (Tide.ackErr m.q now n)) ∧ WoC R w w' p { m with q := Tide.ackLst m.q now n } := by
  obtain ⟨a, ha, hR⟩ := h
  refine (queAck _ p.gq a.vq m.q m.ql now n w ha.qu).mono ?_
  rintro e w' ⟨he, ⟨v', hq⟩, hc⟩
  exact ⟨he, WoN.queue ha hR hq.up hc⟩
theorem woDepth (now : Int) (w : World) (h : WoN R w p m) :
    Calls Tryz.prog 161 #[.pointer (some ⟨p.gq, 0, none⟩), .int .i64 now] w fun e w' => e = .returned (.tuple #[.int .i64 (Tide.depthNum m.q now), .int .i64 (Tide.nowErr now)]) ∧ WoC R w w' p { m with q := Tide.nowLst m.q now } := by
  obtain ⟨a, ha, hR⟩ := h
  refine (queDepth _ p.gq a.vq m.q m.ql now w ha.qu).mono ?_
  rintro e w' ⟨he, hq, hc⟩
  exact ⟨he, WoN.queue ha hR hq.up hc⟩
theorem woScale (n : Int) (w : World) (h : WoN R w p m) (hcr : Tide.Crewed m.f m.fl m.most) (hm : 0 ≤ m.most) (hs : m.f.length ≤ 9000000) (hla : m.fl ≤ 1000000000000) :
    Calls Tryz.prog 142 #[.pointer (some ⟨p.gf, 0, none⟩), .int .i64 n] w fun e w' => e = .returned (.int .i64 (Tide.scaleErr n)) ∧ WoC R w w' p { m with f := Tide.scaleLst m.f m.fl n, fl := Tide.scaleLast m.f m.fl n } := by
  obtain ⟨a, ha, hR⟩ := h
  refine (fleScale _ p.gf a.vp m.f m.fl m.most n w ha.fl hcr hm hs hla).mono ?_
  rintro e w' ⟨he, ⟨v', hq⟩, hc⟩
  exact ⟨he, WoN.fleet ha hR hq hc⟩
theorem woStart (n : Int) (w : World) (h : WoN R w p m) :
    Calls Tryz.prog 59 #[.pointer (some ⟨p.gf, 0, none⟩), .int .i64 n] w fun e w' => e = .returned (.int .i64 (Tide.turnErr m.f n 1)) ∧ WoC R w w' p { m with f := Tide.turnLst m.f n 1 2 } := by
  obtain ⟨a, ha, hR⟩ := h
  refine (fleStart _ p.gf a.vp m.f m.fl m.most n w ha.fl).mono ?_
  rintro e w' ⟨he, ⟨v', hq⟩, hc⟩
  exact ⟨he, WoN.fleet ha hR hq.up hc⟩
theorem woReady (n : Int) (w : World) (h : WoN R w p m) :
    Calls Tryz.prog 61 #[.pointer (some ⟨p.gf, 0, none⟩), .int .i64 n] w fun e w' => e = .returned (.int .i64 (Tide.turnErr m.f n 2)) ∧ WoC R w w' p { m with f := Tide.turnLst m.f n 2 3 } := by
  obtain ⟨a, ha, hR⟩ := h
  refine (fleReady _ p.gf a.vp m.f m.fl m.most n w ha.fl).mono ?_
  rintro e w' ⟨he, ⟨v', hq⟩, hc⟩
  exact ⟨he, WoN.fleet ha hR hq.up hc⟩
theorem woCrash (n : Int) (w : World) (h : WoN R w p m) :
    Calls Tryz.prog 105 #[.pointer (some ⟨p.gf, 0, none⟩), .int .i64 n] w fun e w' => e = .returned (.tuple #[.int .i64 (Tide.crashNum m.f n), .int .i64 (Tide.crashErr m.f n)]) ∧ WoC R w w' p { m with f := Tide.crashLst m.f n } := by
  obtain ⟨a, ha, hR⟩ := h
  refine (fleCrash _ p.gf a.vp m.f m.fl m.most n w ha.fl).mono ?_
  rintro e w' ⟨he, ⟨v', hq⟩, hc⟩
  exact ⟨he, WoN.fleet ha hR hq.up hc⟩
theorem woPodDone (n : Int) (w : World) (h : WoN R w p m) (hld : ∀ p ∈ m.f, 0 ≤ p.load ∧ p.load ≤ 1000) :
    Calls Tryz.prog 109 #[.pointer (some ⟨p.gf, 0, none⟩), .int .i64 n] w fun e w' => e = .returned (.int .i64 (Tide.podDoneErr m.f n)) ∧ WoC R w w' p { m with f := Tide.podDoneLst m.f n } := by
  obtain ⟨a, ha, hR⟩ := h
  refine (fleDone _ p.gf a.vp m.f m.fl m.most n w ha.fl hld).mono ?_
  rintro e w' ⟨he, ⟨v', hq⟩, hc⟩
  exact ⟨he, WoN.fleet ha hR hq.up hc⟩
theorem woGive (w : World) (h : WoN R w p m) (hm : m.most ≤ 1000) (hld : ∀ p ∈ m.f, 0 ≤ p.load) :
    Calls Tryz.prog 144 #[.pointer (some ⟨p.gf, 0, none⟩)] w fun e w' => e = .returned (.tuple #[.int .i64 (Tide.giveNum m.f m.most), .int .i64 (Tide.giveErr m.f m.most)]) ∧ WoC R w w' p { m with f := Tide.giveLst m.f m.most } := by
  obtain ⟨a, ha, hR⟩ := h
  refine (fleGive _ p.gf a.vp m.f m.fl m.most w ha.fl hm hld).mono ?_
  rintro e w' ⟨he, ⟨v', hq⟩, hc⟩
  exact ⟨he, WoN.fleet ha hR hq.up hc⟩
theorem woAsk (now s n : Int) (w : World) (h : WoN R w p m) :
    Calls Tryz.prog 63 #[.pointer (some ⟨p.gb, 0, none⟩), .int .i64 now, .int .i64 s, .int .i64 n] w fun e w' => e = .returned (.tuple #[.int .i64 (Tide.askNum m.b now s n), .int .i64 (Tide.askErr m.b now s n)]) ∧ WoC R w w' p { m with b := Tide.askLst m.b now s n } := by
  obtain ⟨a, ha, hR⟩ := h
  refine (bufAsk _ p.gb a.vb m.b now s n w ha.bu).mono ?_
  rintro e w' ⟨he, ⟨v', hq⟩, hc⟩
  exact ⟨he, WoN.buffer ha hR hq hc⟩
theorem woRun (id pod : Int) (w : World) (h : WoN R w p m) :
    Calls Tryz.prog 145 #[.pointer (some ⟨p.gb, 0, none⟩), .int .i64 id, .int .i64 pod] w fun e w' => e = .returned (.int .i64 (Tide.runErr m.b id)) ∧ WoC R w w' p { m with b := Tide.runLst m.b id pod } := by
  obtain ⟨a, ha, hR⟩ := h
  refine (bufRun _ p.gb a.vb m.b id pod w ha.bu).mono ?_
  rintro e w' ⟨he, ⟨v', hq⟩, hc⟩
  exact ⟨he, WoN.buffer ha hR hq.up hc⟩
theorem woReqDone (id : Int) (w : World) (h : WoN R w p m) :
    Calls Tryz.prog 108 #[.pointer (some ⟨p.gb, 0, none⟩), .int .i64 id] w fun e w' => e = .returned (.tuple #[.int .i64 (Tide.doneNum m.b id), .int .i64 (Tide.doneErr m.b id)]) ∧ WoC R w w' p { m with b := Tide.doneLst m.b id } := by
  obtain ⟨a, ha, hR⟩ := h
  refine (bufDone _ p.gb a.vb m.b id w ha.bu).mono ?_
  rintro e w' ⟨he, ⟨v', hq⟩, hc⟩
  exact ⟨he, WoN.buffer ha hR hq.up hc⟩
theorem woMake (i n : Int) (w : World) (h : WoN R w p m) (hs : Small m.t) :
    Calls Tryz.prog 52 #[.pointer (some ⟨p.gt, 0, none⟩), .int .i64 i, .int .i64 n] w fun e w' => e = .returned (.int .i64 (makeErr m.t i n)) ∧ WoC R w w' p { m with t := makeLst m.t i n } := by
  obtain ⟨a, ha, hR⟩ := h
  refine (topMake_any p.gt a.gp m.t i n w ha.tp hs).mono ?_
  rintro e w' ⟨he, hq, hc⟩
  exact ⟨he, WoN.topic ha hR hq hc⟩
theorem woTake (i n : Int) (w : World) (h : WoN R w p m) :
    Calls Tryz.prog 53 #[.pointer (some ⟨p.gt, 0, none⟩), .int .i64 i, .int .i64 n] w fun e w' => e = .returned (.int .i64 (takeErr m.t i n)) ∧ WoC R w w' p { m with t := takeLst m.t i n } := by
  obtain ⟨a, ha, hR⟩ := h
  refine (topTake_any p.gt a.gp m.t i n w ha.tp).mono ?_
  rintro e w' ⟨he, hq, hc⟩
  exact ⟨he, WoN.topic ha hR hq hc⟩
theorem woPause (n : Int) (w : World) (h : WoN R w p m) :
    Calls Tryz.prog 58 #[.pointer (some ⟨p.gl, 0, none⟩), .int .i64 n] w fun e w' => e = .returned (.int .i64 (pauseE n)) ∧ WoC R w w' p { m with l := pauseL m.l n } := by
  obtain ⟨a, ha, hR⟩ := h
  refine (lopPause (fun b => a.P b = 2) (fun b => a.P b = 3) p.gl a.gs a.lt a.lf a.lw a.lm m.l n w ha.lp).mono ?_
  rintro e w' ⟨he, hq, hc⟩
  exact ⟨he, WoN.loop ha hR (pauseL_p _ _) (hq.up (fun b hb => ha.lim b (by omega))) (hc.mono fun b _ hb => .inl hb)⟩
theorem woDue (now : Int) (j : Nat) (w : World) (h : WoN R w p m) (hj : m.l.ok j) (n0 : -9223372036854775808 ≤ now) (n1 : now ≤ 9223372036854775807) :
    Calls Tryz.prog 95 #[.pointer (some ⟨p.gl, 0, none⟩), .int .i64 now] w fun e w' => e = .returned (.bool (dueB m.l now)) ∧ WoC R w w' p m := by
  obtain ⟨a, ha, hR⟩ := id h
  refine (lopDue _ p.gl a.gs a.lt a.lf m.l now w ha.lp.head n0 n1 hj.last0 hj.last1).mono ?_
  rintro e w' ⟨he, hb⟩
  exact ⟨he, (WoC.refl h).below hb⟩
theorem woLook (Q : Nat → Prop) (v : Value) (now sec have0 : Int) (rs : List RdV) (busy : Bool) (j : Nat) (w : World) (h : WoN R w p m) (hr : RdsIn Q w v rs) (hQ : ∀ b, Q b → R b) (hj : m.l.ok j) (hj2 : j ≤ 90000) (hn : rs.length ≤ 9223372036854775807) :
    Calls Tryz.prog 140 #[.pointer (some ⟨p.gl, 0, none⟩), .int .i64 now, .int .i64 sec, .int .i64 have0, v, .bool busy] w fun e w' => e = .returned (.tuple #[.int .i64 (lookN m.l now sec have0 (rs.map RdV.rd) busy), .int .i64 (lookE m.l now sec have0 (rs.map RdV.rd).length)]) ∧ WoC R w w' p { m with l := lookL m.l now sec have0 (rs.map RdV.rd) busy } := by
  obtain ⟨a, ha, hR⟩ := h
  refine (lopLook (fun b => a.P b = 2) (fun b => a.P b = 3) Q p.gl a.gs a.lt a.lf a.lw a.lm v m.l now sec have0 rs busy j w ha.lp hr (fun b hb => by have := (hR b (hQ b hb)).1; exact ⟨by omega, by omega⟩) hj hj2 hn).mono ?_
  rintro e w' ⟨he, ⟨vw', vm', hq⟩, hc⟩
  exact ⟨he, WoN.loop ha hR (lookL_p _ _ _ _ _ _) hq hc⟩
theorem woNext (w : World) (h : WoN R w p m) :
    Calls Tryz.prog 143 #[.pointer (some ⟨p.gb, 0, none⟩)] w fun e w' => e = .returned (.tuple #[.int .i64 (Tide.nextN m.b), .bool (decide (0 < Tide.nextN m.b))]) ∧ WoC R w w' p m := by
  obtain ⟨a, ha, hR⟩ := id h
  refine (bufNext _ p.gb a.vb m.b w ha.bu).mono ?_
  rintro e w' ⟨he, hb⟩
  exact ⟨he, (WoC.refl h).below hb⟩
theorem woBusy (w : World) (h : WoN R w p m) :
    Calls Tryz.prog 139 #[.pointer (some ⟨p.gb, 0, none⟩)] w fun e w' => e = .returned (.tuple #[.int .i64 (Tide.countF (-1) 1 m.b), .int .i64 (Tide.countF (-1) 2 m.b)]) ∧ Below w.heap.size w w' := by
  obtain ⟨a, ha, hR⟩ := id h
  exact bufCount2 _ p.gb a.vb m.b w ha.bu
theorem woLive (w : World) (h : WoN R w p m) :
    Calls Tryz.prog 141 #[.pointer (some ⟨p.gf, 0, none⟩)] w fun e w' => e = .returned (.int .i64 (Tide.liveN m.f)) ∧ Below w.heap.size w w' := by
  obtain ⟨a, ha, hR⟩ := id h
  exact fleCount _ p.gf a.vp m.f m.fl m.most w ha.fl
theorem woLate (now : Int) (w : World) (h : WoN R w p m) :
    Calls Tryz.prog 94 #[.pointer (some ⟨p.gb, 0, none⟩), .int .i64 now] w fun e w' => (∃ v, e = .returned (.tuple #[v, .int .i64 (Tide.lateErr now)])) ∧ WoC R w w' p { m with b := Tide.lateLst m.b now } := by
  obtain ⟨a, ha, hR⟩ := h
  refine (bufLate _ p.gb a.vb m.b now w ha.bu).mono ?_
  rintro e w' ⟨v, he, _, hq, hc⟩
  exact ⟨⟨v, he⟩, WoN.buffer ha hR hq.up hc⟩
theorem woLost (pod : Int) (w : World) (h : WoN R w p m) :
    Calls Tryz.prog 106 #[.pointer (some ⟨p.gb, 0, none⟩), .int .i64 pod] w fun e w' => (∃ v, e = .returned v) ∧ WoC R w w' p { m with b := Tide.lostLst m.b pod } := by
  obtain ⟨a, ha, hR⟩ := h
  refine (bufLost _ p.gb a.vb m.b pod w ha.bu).mono ?_
  rintro e w' ⟨v, he, _, hq, hc⟩
  exact ⟨⟨v, he⟩, WoN.buffer ha hR hq.up hc⟩
theorem woPods (w : World) (h : WoN R w p m) : Calls Tryz.prog 65 #[.pointer (some ⟨p.gf, 0, none⟩)] w (FleAllPost w m.f) := by
  obtain ⟨a, ha, hR⟩ := h
  exact fleAll _ p.gf a.vp m.f m.fl m.most w ha.fl
theorem woReqs (w : World) (h : WoN R w p m) : Calls Tryz.prog 66 #[.pointer (some ⟨p.gb, 0, none⟩)] w (BufAllPost w m.b) := by
  obtain ⟨a, ha, hR⟩ := h
  exact bufAll _ p.gb a.vb m.b w ha.bu
theorem woLags (w : World) (h : WoN R w p m) (hs : Small m.t) : Calls Tryz.prog 70 #[.pointer (some ⟨p.gt, 0, none⟩)] w (LagsPost w (lagsOf m.t)) := by
  obtain ⟨a, ha, hR⟩ := h
  exact topLags p.gt a.gp m.t w ha.tp hs
theorem woMsgs (now : Int) (w : World) (h : WoN R w p m) :
    Calls Tryz.prog 68 #[.pointer (some ⟨p.gq, 0, none⟩), .int .i64 now] w fun e w' => (∃ v', e = .returned (.tuple #[v', .int .i64 (Tide.nowErr now)]) ∧ Tide.OwnRow (fun b => w.heap.size ≤ b) w' 65 3 v' (Tide.allLst m.q now).length ((Tide.allLst m.q now).flatMap Tide.Msg.enc)) ∧ WoN (fun b => R b ∨ (w.heap.size ≤ b ∧ b < w'.heap.size)) w' p { m with q := Tide.nowLst m.q now } ∧ Tide.Chg (fun b => ¬ R b) w w' := by
  obtain ⟨a, ha, hR⟩ := h
  refine (queAll _ p.gq a.vq m.q m.ql now w ha.qu).mono ?_
  rintro e w' ⟨he, hq, hc⟩
  obtain ⟨k1, k2, k3, k4⟩ := ha.keep1 0 hc (fun _ _ _ => by omega)
  obtain ⟨k5, k6⟩ := ha.keep4a 0 w'
  exact ⟨he, WoN.next0 hR (a' := { a with P := paint a.P 0 w w' }) ⟨k1, k2, k3, ha.keep2 0 hc (fun _ _ _ => by omega) (fun _ _ _ => by omega), ha.keep4 0 hc (fun _ _ _ => by omega), k5, k6, hq.mono (fun b hb e => paint_ne ha.lim (by omega) hb e) (fun b e => paint_lt ha.lim hc.size (by omega) e), ha.keep6 0 hc (fun _ _ _ => by omega), ha.keep7 0 hc (fun _ _ _ => by omega), k4, fun b hb => paint_lim ha.lim hc.size hb⟩ rfl hc (fun _ h => by omega)⟩
end
end Go.Proofs.YtlfaogkdghnmcaaGreat
