/- Parts of this claim: GloB, GloC, GloD, GloT. -/
import Derived.Test.YtidonhndeohdlaaGreatWlWatW
import Derived.Test.YtidonhndeohdlaaGreatWlWldT
set_option linter.unusedVariables false
set_option linter.unusedSimpArgs false
set_option maxRecDepth 100000
set_option maxHeartbeats 12800000
namespace Go.Proofs.YtidonhndeohdlaaGreat
open Go.RowKit
section
variable {RT R : Nat → Prop} {p : Wp} {m : Wo}
theorem gloPut (n : Int) (w : World) (h : GloN RT R w p m) (l0 : 0 ≤ m.ql) (l1 : m.ql ≤ 4000000000000000000) :
  Calls Tryz.prog 35 #[.pointer (some ⟨p.gq, 0, none⟩), .int .i64 n] w fun e w' => e = .returned (.tuple #[.int .i64 (G.putNum m.q m.ql n), .int .i64 (G.putErr m.q n)]) ∧ GloK RT R w w' p { m with q := G.putLst m.q m.ql n, ql := G.putLast m.q m.ql n } := by
 obtain ⟨a, ha, hR⟩ := h
 refine (linPut _ p.gq a.vq m.q m.ql n w ha.qu l0 l1).mono ?_
 rintro e w' ⟨he, ⟨v', hq⟩, hc⟩
 exact ⟨he, GloN.queue ha hR hq hc⟩
theorem gloLease (now n : Int) (w : World) (h : GloN RT R w p m) :
  Calls Tryz.prog 36 #[.pointer (some ⟨p.gq, 0, none⟩), .int .i64 now, .int .i64 n] w fun e w' => e = .returned (.tuple #[.int .i64 (G.leaseNum m.q now n), .int .i64 (G.leaseErr m.q now n)]) ∧ GloK RT R w w' p { m with q := G.leaseLst m.q now n } := by
 obtain ⟨a, ha, hR⟩ := h
 refine (linLease _ p.gq a.vq m.q m.ql now n w ha.qu).mono ?_
 rintro e w' ⟨he, hq, hc⟩
 exact ⟨he, GloN.queue ha hR hq.up hc⟩
theorem gloAck (now n : Int) (w : World) (h : GloN RT R w p m) (hu : G.Up m.q) :
  Calls Tryz.prog 37 #[.pointer (some ⟨p.gq, 0, none⟩), .int .i64 now, .int .i64 n] w fun e w' => e = .returned (.int .i64 (G.ackErr m.q now n)) ∧ GloK RT R w w' p { m with q := G.ackLst m.q now n } := by
 obtain ⟨a, ha, hR⟩ := h
 refine (linAck _ p.gq a.vq m.q m.ql now n w ha.qu hu).mono ?_
 rintro e w' ⟨he, ⟨v', hq⟩, hc⟩
 exact ⟨he, GloN.queue ha hR hq hc⟩
theorem gloDepth (now : Int) (w : World) (h : GloN RT R w p m) :
  Calls Tryz.prog 80 #[.pointer (some ⟨p.gq, 0, none⟩), .int .i64 now] w fun e w' => e = .returned (.tuple #[.int .i64 (G.depthNum m.q now), .int .i64 (G.nowErr now)]) ∧ GloK RT R w w' p { m with q := G.nowLst m.q now } := by
 obtain ⟨a, ha, hR⟩ := h
 refine (linDepth _ p.gq a.vq m.q m.ql now w ha.qu).mono ?_
 rintro e w' ⟨he, hq, hc⟩
 exact ⟨he, GloN.queue ha hR hq.up hc⟩
theorem gloScale (n : Int) (w : World) (h : GloN RT R w p m) (hcr : G.Crewed m.f m.fl m.most) (hm : 0 ≤ m.most) (hs : m.f.length ≤ 9000000) (hla : m.fl ≤ 1000000000000) :
  Calls Tryz.prog 84 #[.pointer (some ⟨p.gf, 0, none⟩), .int .i64 n] w fun e w' => e = .returned (.int .i64 (G.scaleErr n)) ∧ GloK RT R w w' p { m with f := G.scaleLst m.f m.fl n, fl := G.scaleLast m.f m.fl n } := by
 obtain ⟨a, ha, hR⟩ := h
 refine (creScale _ p.gf a.vp m.f m.fl m.most n w ha.fl hcr hm hs hla).mono ?_
 rintro e w' ⟨he, ⟨v', hq⟩, hc⟩
 exact ⟨he, GloN.fleet ha hR hq hc⟩
theorem gloTurn (n src : Int) (w : World) (h : GloN RT R w p m) (h0 : 0 ≤ src) (h1 : src ≤ 10) :
  Calls Tryz.prog 38 #[.pointer (some ⟨p.gf, 0, none⟩), .int .i64 n, .int .i64 src] w fun e w' => e = .returned (.int .i64 (G.turnErr m.f n src)) ∧ GloK RT R w w' p { m with f := G.turnLst m.f n src (src + 1) } := by
 obtain ⟨a, ha, hR⟩ := h
 refine (creTurn _ p.gf a.vp m.f m.fl m.most n src w ha.fl h0 h1).mono ?_
 rintro e w' ⟨he, ⟨v', hq⟩, hc⟩
 exact ⟨he, GloN.fleet ha hR hq hc⟩
theorem gloCrash (n : Int) (w : World) (h : GloN RT R w p m) (hu : m.f.Pairwise (fun a b => a.id < b.id)) :
  Calls Tryz.prog 39 #[.pointer (some ⟨p.gf, 0, none⟩), .int .i64 n] w fun e w' => e = .returned (.tuple #[.int .i64 (G.crashNum m.f n), .int .i64 (G.crashErr m.f n)]) ∧ GloK RT R w w' p { m with f := G.crashLst m.f n } := by
 obtain ⟨a, ha, hR⟩ := h
 refine (creCrash _ p.gf a.vp m.f m.fl m.most n w ha.fl hu).mono ?_
 rintro e w' ⟨he, ⟨v', hq⟩, hc⟩
 exact ⟨he, GloN.fleet ha hR hq hc⟩
theorem gloPodDone (n : Int) (w : World) (h : GloN RT R w p m) (hld : ∀ p ∈ m.f, 0 ≤ p.load ∧ p.load ≤ 1000) (hu : m.f.Pairwise (fun a b => a.id < b.id)) :
  Calls Tryz.prog 43 #[.pointer (some ⟨p.gf, 0, none⟩), .int .i64 n] w fun e w' => e = .returned (.int .i64 (G.podDoneErr m.f n)) ∧ GloK RT R w w' p { m with f := G.podDoneLst m.f n } := by
 obtain ⟨a, ha, hR⟩ := h
 refine (creDone _ p.gf a.vp m.f m.fl m.most n w ha.fl hld hu).mono ?_
 rintro e w' ⟨he, ⟨v', hq⟩, hc⟩
 exact ⟨he, GloN.fleet ha hR hq hc⟩
theorem gloGive (w : World) (h : GloN RT R w p m) (hm : m.most ≤ 1000) (hld : ∀ p ∈ m.f, 0 ≤ p.load) :
  Calls Tryz.prog 90 #[.pointer (some ⟨p.gf, 0, none⟩)] w fun e w' => e = .returned (.tuple #[.int .i64 (G.giveNum m.f m.most), .int .i64 (G.giveErr m.f m.most)]) ∧ GloK RT R w w' p { m with f := G.giveLst m.f m.most } := by
 obtain ⟨a, ha, hR⟩ := h
 refine (creGive _ p.gf a.vp m.f m.fl m.most w ha.fl hm hld).mono ?_
 rintro e w' ⟨he, ⟨v', hq⟩, hc⟩
 exact ⟨he, GloN.fleet ha hR hq hc⟩
theorem gloAsk (now s n : Int) (w : World) (h : GloN RT R w p m) (hc1 : 0 ≤ s → G.countF s 1 m.b ≤ 20) (hc2 : G.countF (-1) 1 m.b ≤ 60) :
  Calls Tryz.prog 41 #[.pointer (some ⟨p.gb, 0, none⟩), .int .i64 now, .int .i64 s, .int .i64 n] w fun e w' => e = .returned (.tuple #[.int .i64 (G.askNum m.b now s n), .int .i64 (G.askErr m.b now s n)]) ∧ GloK RT R w w' p { m with b := G.askLst m.b now s n } := by
 obtain ⟨a, ha, hR⟩ := h
 refine (halAsk _ p.gb a.vb m.b now s n w ha.bu hc1 hc2).mono ?_
 rintro e w' ⟨he, ⟨v', hq⟩, hc⟩
 exact ⟨he, GloN.buffer ha hR hq hc⟩
theorem gloRun (id pod : Int) (w : World) (h : GloN RT R w p m) (hn : G.Numbered m.b) :
  Calls Tryz.prog 91 #[.pointer (some ⟨p.gb, 0, none⟩), .int .i64 id, .int .i64 pod] w fun e w' => e = .returned (.int .i64 (G.runErr m.b id)) ∧ GloK RT R w w' p { m with b := G.runLst m.b id pod } := by
 obtain ⟨a, ha, hR⟩ := h
 refine (halRun _ p.gb a.vb m.b id pod w ha.bu hn).mono ?_
 rintro e w' ⟨he, ⟨v', hq⟩, hc⟩
 exact ⟨he, GloN.buffer ha hR hq.up hc⟩
theorem gloReqDone (id : Int) (w : World) (h : GloN RT R w p m) :
  Calls Tryz.prog 42 #[.pointer (some ⟨p.gb, 0, none⟩), .int .i64 id] w fun e w' => e = .returned (.tuple #[.int .i64 (G.doneNum m.b id), .int .i64 (G.doneErr m.b id)]) ∧ GloK RT R w w' p { m with b := G.doneLst m.b id } := by
 obtain ⟨a, ha, hR⟩ := h
 refine (halDone _ p.gb a.vb m.b id w ha.bu).mono ?_
 rintro e w' ⟨he, ⟨v', hq⟩, hc⟩
 exact ⟨he, GloN.buffer ha hR hq.up hc⟩
theorem gloMake (i n : Int) (w : World) (h : GloN RT R w p m) (hs : Small m.t) :
  Calls Tryz.prog 33 #[.pointer (some ⟨p.gt, 0, none⟩), .int .i64 i, .int .i64 n] w fun e w' => e = .returned (.int .i64 (makeErr m.t i n)) ∧ GloK RT R w w' p { m with t := makeLst m.t i n } := by
 obtain ⟨a, ha, hR⟩ := h
 refine (boaMake_any p.gt a.gp a.gr m.t i n w ha.tp hs).mono ?_
 rintro e w' ⟨he, hq, hc⟩
 exact ⟨he, GloN.topic ha hR hq (hc.mono fun b _ hb => by have := ha.tp2; have := ha.tp3; rcases hb with hb | hb <;> subst hb <;> assumption)⟩
theorem gloTake (i n : Int) (w : World) (h : GloN RT R w p m) :
  Calls Tryz.prog 34 #[.pointer (some ⟨p.gt, 0, none⟩), .int .i64 i, .int .i64 n] w fun e w' => e = .returned (.int .i64 (takeErr m.t i n)) ∧ GloK RT R w w' p { m with t := takeLst m.t i n } := by
 obtain ⟨a, ha, hR⟩ := h
 refine (boaTake_any p.gt a.gp a.gr m.t i n w ha.tp).mono ?_
 rintro e w' ⟨he, hq, hc⟩
 exact ⟨he, GloN.topic ha hR hq (hc.mono fun b _ hb => by have := ha.tp2; have := ha.tp3; rcases hb with hb | hb <;> subst hb <;> assumption)⟩
theorem gloDue (now : Int) (j : Nat) (w : World) (h : GloN RT R w p m) (hj : m.l.ok j) (n0 : -9223372036854775808 ≤ now) (n1 : now ≤ 9223372036854775807) :
  Calls Tryz.prog 79 #[.pointer (some ⟨p.gl, 0, none⟩), .int .i64 now] w fun e w' => e = .returned (.bool (dueB m.l now)) ∧ GloK RT R w w' p m := by
 obtain ⟨a, ha, hR⟩ := id h
 refine (watDue p.gl a.gs p.vt a.lf m.l now w ha.lp.head n0 n1 hj.last0 hj.last1 (planE_ok hj.plan).poll.1).mono ?_
 rintro e w' ⟨he, hb⟩
 exact ⟨he, (GloK.refl h).below hb⟩
theorem gloLook (Q : Nat → Prop) (v : Value) (now sec have0 : Int) (rs : List RdV) (busy : Bool) (j : Nat) (w : World) (h : GloN RT R w p m) (hr : RdsIn Q w v rs) (hQ : ∀ b, Q b → R b) (hj : m.l.ok j) (hj2 : j ≤ 90000) (hn : rs.length ≤ 9223372036854775807) :
  Calls Tryz.prog 82 #[.pointer (some ⟨p.gl, 0, none⟩), .int .i64 now, .int .i64 sec, .int .i64 have0, v, .bool busy] w fun e w' => e = .returned (.tuple #[.int .i64 (lookN m.l now sec have0 (rs.map RdV.rd) busy), .int .i64 (lookE m.l now sec have0 (rs.map RdV.rd).length)]) ∧ GloK RT R w w' p { m with l := lookL m.l now sec have0 (rs.map RdV.rd) busy } := by
 obtain ⟨a, ha, hR⟩ := h
 refine (watLook RT (fun b => a.P b = 2) (fun b => a.P b = 3) Q p.gl a.gs p.vt a.lf a.lw a.lm v m.l now sec have0 rs busy j w ha.lp hr (fun b hb => by have := (hR b (hQ b hb)).1; exact ⟨by omega, by omega⟩) (fun b hb => (ha.rt b hb).2) hj hj2 hn).mono ?_
 rintro e w' ⟨he, ⟨vw', vm', hq⟩, hc⟩
 exact ⟨he, GloN.loop ha hR hq hc⟩
theorem gloNext (w : World) (h : GloN RT R w p m) (hn : G.Numbered m.b) :
  Calls Tryz.prog 89 #[.pointer (some ⟨p.gb, 0, none⟩)] w fun e w' => e = .returned (.tuple #[.int .i64 (G.nextH m.b), .bool (decide (0 < G.nextH m.b))]) ∧ w = w' := by
 obtain ⟨a, ha, hR⟩ := h
 exact halNext _ p.gb a.vb m.b w ha.bu hn
theorem gloMany (fate : Int) (w : World) (h : GloN RT R w p m) :
  Calls Tryz.prog 81 #[.pointer (some ⟨p.gb, 0, none⟩), .int .i64 (-1), .int .i64 fate] w fun e w' => e = .returned (.int .i64 (G.countF (-1) fate m.b)) ∧ w = w' := by
 obtain ⟨a, ha, hR⟩ := h
 exact halMany _ p.gb a.vb m.b (-1) fate w ha.bu (by decide)
theorem gloLive (w : World) (h : GloN RT R w p m) :
  Calls Tryz.prog 83 #[.pointer (some ⟨p.gf, 0, none⟩)] w fun e w' => e = .returned (.int .i64 (G.liveN m.f)) ∧ w = w' := by
 obtain ⟨a, ha, hR⟩ := h
 exact creCount _ p.gf a.vp m.f m.fl m.most w ha.fl
theorem gloLate (now : Int) (w : World) (h : GloN RT R w p m) (hn : G.Numbered m.b) :
  Calls Tryz.prog 78 #[.pointer (some ⟨p.gb, 0, none⟩), .int .i64 now] w fun e w' => (∃ v, e = .returned (.tuple #[v, .int .i64 (G.lateErr now)])) ∧ GloK RT R w w' p { m with b := G.lateLst m.b now } := by
 obtain ⟨a, ha, hR⟩ := h
 refine (halLate _ p.gb a.vb m.b now w ha.bu hn).mono ?_
 rintro e w' ⟨v, he, _, hq, hc⟩
 exact ⟨⟨v, he⟩, GloN.buffer ha hR hq.up hc⟩
theorem gloLost (pod : Int) (w : World) (h : GloN RT R w p m) (hn : G.Numbered m.b) :
  Calls Tryz.prog 40 #[.pointer (some ⟨p.gb, 0, none⟩), .int .i64 pod] w fun e w' => (∃ v, e = .returned v) ∧ GloK RT R w w' p { m with b := G.lostLst m.b pod } := by
 obtain ⟨a, ha, hR⟩ := h
 refine (halLost _ p.gb a.vb m.b pod w ha.bu hn).mono ?_
 rintro e w' ⟨v, he, _, hq, hc⟩
 exact ⟨⟨v, he⟩, GloN.buffer ha hR hq.up hc⟩
theorem gloLags (w : World) (h : GloN RT R w p m) (hs : Small m.t) : Calls Tryz.prog 54 #[.pointer (some ⟨p.gt, 0, none⟩)] w (LagsPost w (lagsOf m.t)) := by
 obtain ⟨a, ha, hR⟩ := h
 exact boaLags p.gt a.gp a.gr m.t w ha.tp hs
theorem gloMsgs (now : Int) (w : World) (h : GloN RT R w p m) :
  Calls Tryz.prog 45 #[.pointer (some ⟨p.gq, 0, none⟩), .int .i64 now] w fun e w' => (∃ v', e = .returned (.tuple #[v', .int .i64 (G.nowErr now)]) ∧ G.OwnRow (fun b => w.heap.size ≤ b) w' 111 3 v' (G.allLst m.q now).length ((G.allLst m.q now).flatMap G.Msg.enc)) ∧ GloN RT (fun b => R b ∨ (w.heap.size ≤ b ∧ b < w'.heap.size)) w' p { m with q := G.nowLst m.q now } ∧ G.Chg (fun b => ¬ R b) w w' := by
 obtain ⟨a, ha, hR⟩ := h
 refine (linAll _ p.gq a.vq m.q m.ql now w ha.qu).mono ?_
 rintro e w' ⟨he, hq, hc⟩
 obtain ⟨k1, k2, k3⟩ := ha.keep1 0 hc (fun b hb e => by omega)
 obtain ⟨k5, k6, k7⟩ := ha.keep4a 0 w'
 refine ⟨he, ⟨{ a with P := paint a.P 0 w w' }, ⟨k1, k2, ha.keep2 0 hc (fun b hb _ e => by omega) (fun b hb e => by omega) (fun b hb e => by omega), ha.keep4 0 hc (fun b hb e => by omega), k5, k6, k7, hq.mono (fun b hb e => paint_ne ha.lim (by omega) hb e) (fun b e => paint_lt ha.lim hc.size (by omega) e), ha.keep6 0 hc (fun b hb e => by omega), ha.keep7 0 hc (fun b hb e => by omega), k3, fun b hb => paint_lim ha.lim hc.size hb, ha.keep0 0 hc⟩, fun b hb => ?_⟩, hc.mono fun b _ hb hR' => by have := (hR b hR').1; omega⟩
 rcases hb with hb | hb
 ·exact ⟨(paint_old (hR b hb).2).trans (hR b hb).1, Nat.lt_of_lt_of_le (hR b hb).2 hc.size⟩
 exact ⟨by show paint a.P 0 w w' b = 0; unfold paint; rw [if_pos hb], hb.2⟩
end
open Go.RowKit
def GloPost (RT R : Nat → Prop) (w : World) (p : Wp) (x : Value) (m : Wo) (e : Ending) (w' : World) : Prop := e = .returned x ∧ GloK RT R w w' p m
def GonRun (RT R : Nat → Prop) (w wr : World) (p : Wp) (m : Wo) (k : Nat) : Prop := ∃ m' : Wo, GloK RT R w wr p m' ∧ m' = { m with b := m'.b, f := m'.f } ∧ G.Numbered m'.b ∧ G.waitN m'.b ≤ k ∧ G.Crewed m'.f m.fl m.most ∧ onN m.most k (m'.b, m'.f) = onN m.most m.b.length (m.b, m.f)
theorem gonRun_stop {RT R : Nat → Prop} {w wr : World} {p : Wp} {m m' : Wo} {k : Nat} (h : GloK RT R w wr p m') (e : m' = { m with b := m'.b, f := m'.f }) (hg : onGoes m.most m'.b m'.f = false) (hk : onN m.most k (m'.b, m'.f) = onN m.most m.b.length (m.b, m.f)) : GloPost RT R w p (.tuple #[]) m.on (.returned (.tuple #[])) wr := by
 rw [onN_stop (x := (m'.b, m'.f)) hg] at hk
 refine ⟨rfl, ?_⟩
 unfold Wo.on
 rw [← hk]
 rw [e] at h
 exact h
theorem gloOn (RT R : Nat → Prop) (p : Wp) (m : Wo) (j : Nat) (w : World) (h : GloN RT R w p m) (hk : m.ok j) :
  Calls Tryz.prog 44 #[.pointer (some ⟨p.g, 0, none⟩)] w (GloPost RT R w p (.tuple #[]) m.on) := by
 have HS := J (show GonRun RT R w w p m m.b.length from ⟨m, GloK.refl h, rfl, hk.fair.num, waitN_le _, hk.crew, rfl⟩)
 have HM := J (show m.most ≤ 1000 by have := hk.most1; omega)
 clear h hk
 go_enter Tryz.func44, Tryz.ntmps44
 go_wp2_with fail
 go_loopg [] m.b.length (fun k wr => Hid (GonRun RT R w wr p m k))
 case atStart => exact HS
 clear HS
 obtain ⟨m', hC, hm, hn, hw, hcr, he⟩ := hrel.u
 have HC := J hC; have HEq := J hm; have HNu := J hn; have HW := J hw; have HCr := J hcr; have HE := J he
 have HMo := J (show m'.most = m.most by rw [hm])
 have x4 := hC.1.at.here (i := 4) rfl
 have x3 := hC.1.at.here (i := 3) rfl
 clear hC hm hn hw hcr he hrel
 go_wp2_with fail
 refine (gloNext _ HC.u.1 HNu.u).mono ?_
 rw [← G.next_same HNu.u]
 rintro e w2 ⟨rfl, rfl⟩
 by_cases hnx : 0 < G.nextN m'.b
 ·have HNx := J hnx
  rw [decide_eq_true hnx]
  clear hnx x4
  go_wp2_with fail
  refine (gloGive _ HC.u.1 (by rw [HMo.u]; exact HM.u) (fun q hq => (HCr.u.loads q hq).1)).mono ?_
  rintro e w3 ⟨rfl, hc3⟩
  have HC3 := J (GloK.trans HC.u.2 hc3)
  by_cases hg : G.giveErr m'.f m'.most = 0
  ·have HG := J (show onGoes m.most m'.b m'.f = true by unfold onGoes; rw [← HMo.u, hg, decide_eq_true HNx.u]; rfl)
   have x4 := HC3.u.1.at.here (i := 4) rfl
   rw [hg]
   clear hc3 hg x3 HC
   go_wp2_with fail
   refine (gloRun (G.nextN m'.b) (G.giveNum m'.f m'.most) _ HC3.u.1 HNu.u).mono ?_
   rintro e w4 ⟨rfl, hc4⟩
   have HN := J (show GonRun RT R w w4 p m (gk - 1) from ⟨_, GloK.trans HC3.u.2 hc4, by rw [HEq.u], G.tame_num HNu.u (G.tame_run _ _ _), by
    have := G.waitN_run HNu.u HNx.u (G.giveNum m'.f m'.most); have := HW.u; show G.waitN (G.runLst m'.b (G.nextN m'.b) (G.giveNum m'.f m'.most)) ≤ gk - 1; omega, by show G.Crewed (G.giveLst m'.f m'.most) m.fl m.most; rw [HMo.u]; exact HCr.u.give.1, by
    have hk1 : gk = gk - 1 + 1 := by have := G.waitN_run HNu.u HNx.u 0; have := HW.u; omega
    have e2 := HE.u
    rw [hk1, onN_go (x := (m'.b, m'.f)) HG.u] at e2
    rw [← e2]; show onN m.most (gk - 1) (G.runLst m'.b _ _, G.giveLst m'.f m'.most) = _; rw [HMo.u]⟩)
   have hgk : 0 < gk := by have := G.waitN_run HNu.u HNx.u 0; have := HW.u; omega
   have HGk := J hgk
   clear hc4 hgk x4 HC3
   go_wp2_with fail
   go_roundg (gk - 1)
   case measure => have := HGk.u; omega
   case rel => exact HN
  have hgb : (G.giveErr m'.f m'.most != 0) = true := by simpa using hg
  have HF := J (gonRun_stop (show GloK RT R w w3 p m' by
   have e4 : G.giveLst m'.f m'.most = m'.f := by unfold G.giveErr at hg; unfold G.giveLst; cases hq : G.giveAt m'.f m'.most with
    | none => rfl
    | some i => rw [hq] at hg; exact absurd rfl hg
   have := HC3.u; rw [e4] at this; exact this) HEq.u (by unfold onGoes; rw [← HMo.u, show (G.giveErr m'.f m'.most == 0) = false by simpa using hg, Bool.and_false]) HE.u)
  generalize G.giveErr m'.f m'.most = ge at hgb ⊢
  clear hc3 hg x3 HC HC3
  go_wp2_with fail
  go_end0
  exact HF.u
 have HF := J (gonRun_stop HC.u HEq.u (by unfold onGoes; rw [decide_eq_false hnx]; rfl) HE.u)
 rw [decide_eq_false hnx]
 clear hnx x4 x3 HC
 go_wp2_with fail
 go_end0
 exact HF.u
theorem GloN.pause {RT R : Nat → Prop} {w : World} {p : Wp} {m : Wo} (h : GloN RT R w p m) {n : Int} (n0 : -1 ≤ n) (n1 : n ≤ 50) : GloK RT R w (w.setCell ⟨p.gl, 23, none⟩ (.int .i64 n)) p { m with l := pauseL m.l n } := by
 obtain ⟨a, ha, hR⟩ := h
 have e : pauseL m.l n = { m.l with pause := n } := by unfold pauseL; rw [if_neg (by omega)]
 have hq := ha.lp.put (i := 23) (u := .int .i64 n) (l' := { m.l with pause := n }) rfl rfl rfl rfl
 rw [e]
 exact GloN.loop ha hR (hq.up (fun b (hb : a.P b = 2) => ha.lim b (by omega)) (fun b hb => (ha.rt b hb).2)) ((G.Chg.refl _ w).put (p := ⟨p.gl, 23, none⟩) (.inl (.inl ha.lp.own)) _)
theorem GloN.watch {RT R : Nat → Prop} {w : World} {p : Wp} {m : Wo} (h : GloN RT R w p m) : ∃ gs lf, G.At w p.gl 94 (lopCells m.l gs p.vt lf) ∧ ¬ R p.gl := by
 obtain ⟨a, ha, hR⟩ := h
 exact ⟨a.gs, a.lf, ha.lp.head, fun hb => by have h2 : a.P p.gl = 2 := ha.lp.own; have := (hR _ hb).1; omega⟩
open Go.RowKit
structure GlRun (RT R : Nat → Prop) (w wr : World) (p : Wp) (m : Wo) (k : Nat) (v : Value) (rs : List RdV) (S Q : Nat → Prop) : Prop where
 len : rs.length = k
 rds : rs.map RdV.rd = (m.reads).take k
 row : G.OwnRow S wr 142 2 v k (rs.flatMap RdV.enc)
 nums : ∀ r ∈ rs, NumsOf Q wr r.A r.xs ∧ r.xs.length ≤ 20
 dis : ∀ b, S b → ¬ Q b
 new : ∀ b, S b ∨ Q b → w.heap.size ≤ b
 wo : GloN RT (fun b => R b ∨ (S b ∨ Q b)) wr p { m with q := qAfter (m.l.p.trigs.take k) m.q m.now }
 chg : G.Chg (fun b => ¬ R b) w wr
theorem GlRun.next {RT R S Q Q1 : Nat → Prop} {w wr w2 w5 : World} {p : Wp} {m : Wo} {k : Nat} {v v' : Value} {rs : List RdV} {r : RdV} {t : Trg} {x : Bool} {o : Obj} (hR : ∀ b, R b → b < w.heap.size) (hRT : ∀ b, RT b → b < w.heap.size) (h : GlRun RT R w wr p m k v rs S Q) (ht : m.l.p.trigs[k]? = some t) (hx : m.fails[k]? = some x)
  (h1 : r.rd = readOf t x m.t (qAfter (m.l.p.trigs.take k) m.q m.now) m.now) (h2 : NumsOf Q1 w2 r.A r.xs) (h3 : r.xs.length ≤ 20) (h4 : ∀ b, Q1 b → wr.heap.size ≤ b) (h5 : GloN RT (fun b => (R b ∨ (S b ∨ Q b)) ∨ Q1 b) w2 p { m with q := qAfter [t] (qAfter (m.l.p.trigs.take k) m.q m.now) m.now }) (h6 : G.Chg (fun b => ¬ (R b ∨ (S b ∨ Q b))) wr w2)
  (hown : w5.ownsRow 0 142 2 v' (k + 1) (rs.flatMap RdV.enc ++ r.enc)) (hg : (w2.alloc o).grownBy w5 v.ownBlock) (hv : v'.ownBlock = v.ownBlock ∨ v'.ownBlock = some (w2.alloc o).heap.size) (hlt : ∀ g, v'.ownBlock = some g → g < w5.heap.size) :
  ∃ S' Q', GlRun RT R w w5 p m (k + 1) v' (rs ++ [r]) S' Q' := by
 have z1 := h6.size
 have z2 := hg.size
 simp only [World.size_alloc] at z2
 have hS : ∀ b, S b → b < wr.heap.size := fun b hb => h.wo.lt (.inr (.inl hb))
 have hQ : ∀ b, Q b → b < wr.heap.size := fun b hb => h.wo.lt (.inr (.inr hb))
 have hQ1 : ∀ b, Q1 b → b < w2.heap.size := fun b hb => h5.lt (.inr hb)
 have row2 : G.OwnRow S w2 142 2 v k (rs.flatMap RdV.enc) := h.row.chg h6 (fun b hb h => h (.inr (.inl hb)))
 have hvS : ∀ g, v.ownBlock = some g → S g := fun g hg => (row2.block g hg).1
 have c2 : G.Chg (fun b => v.ownBlock = some b) (w2.alloc o) w5 := (G.Chg.refl _ _).grown hg (fun g e => .inl e)
 have c3 : G.Chg (fun b => v.ownBlock = some b) w2 w5 := ((G.Chg.refl _ w2).alloc o).trans (c2.mono fun b _ hb => hb) |>.mono (fun b _ hb => hb)
 refine ⟨fun b => S b ∨ (w2.heap.size ≤ b ∧ b < w5.heap.size), fun b => Q b ∨ Q1 b, ?_⟩
 refine ⟨by rw [List.length_append, h.len]; rfl, ?_, ?_, ?_, ?_, ?_, ?_, ?_⟩
 ·rw [List.map_append, h.rds, G.take_of_get (reads_get ht hx)]
  show _ ++ [r.rd] = _
  rw [h1, readOf_after]
 ·rw [List.flatMap_append, show [r].flatMap RdV.enc = r.enc by simp]
  refine G.OwnRow.of_owns hown fun g hg => ?_
  have hl := hlt g hg
  rcases hv with e | e
  ·rw [e] at hg; exact .inl (hvS g hg)
  rw [e] at hg; cases hg; exact .inr ⟨by simp, hl⟩
 ·intro q hq
  rcases List.mem_append.1 hq with hq | hq
  ·obtain ⟨n1, n2⟩ := h.nums q hq
   have := (n1.chg h6 (fun b hb h => h (.inr (.inr hb)))).chg c3 (fun b hb e => h.dis b (hvS b e) hb)
   exact ⟨this.mono fun b hb => .inl hb, n2⟩
  simp at hq; subst hq
  have := h2.chg c3 (fun b hb e => by have := hS b (hvS b e); have := h4 b hb; omega)
  exact ⟨this.mono fun b hb => .inr hb, h3⟩
 ·intro b hb hq
  rcases hb with hb | hb
  ·rcases hq with hq | hq
   ·exact h.dis b hb hq
   have := hS b hb; have := h4 b hq; omega
  rcases hq with hq | hq
  ·have := hQ b hq; omega
  have := hQ1 b hq; omega
 ·have hz := h.chg.size
  intro b hb
  rcases hb with (hb | hb) | (hb | hb)
  ·exact h.new b (.inl hb)
  ·omega
  ·exact h.new b (.inr hb)
  have := h4 b hb; omega
 ·rw [qAfter_take ht] at h5
  exact (h5.grow c3 (fun b hb => .inl (.inr (.inl (hvS b hb)))) (fun b hb e => by have := h.new b (.inl (hvS b e)); have := hRT b hb; omega)).mono fun b hb => by
   rcases hb with hb | (hb | hb) | (hb | hb)
   ·exact .inl (.inl (.inl hb))
   ·exact .inl (.inl (.inr (.inl hb)))
   ·exact .inr hb
   ·exact .inl (.inl (.inr (.inr hb)))
   exact .inl (.inr hb)
 refine (h.chg.trans (h6.mono fun b _ hb hR => hb (.inl hR))).trans (c3.mono fun b hlt hb hR2 => ?_)
 have := h.new b (.inl (hvS b hb))
 have := hR b hR2
 omega
structure GlMid (RT R : Nat → Prop) (w wx : World) (p : Wp) (m : Wo) (v : Value) (rs : List RdV) (Q : Nat → Prop) : Prop where
 wo : GloN RT (fun b => R b ∨ Q b) wx p m
 rds : RdsIn Q wx v rs
 chg : G.Chg (fun b => ¬ R b) w wx
theorem GlMid.below {RT R Q : Nat → Prop} {w wx w' : World} {p : Wp} {m : Wo} {v : Value} {rs : List RdV} (h : GlMid RT R w wx p m v rs Q) (hb : Below wx.heap.size wx w') : GlMid RT R w w' p m v rs Q :=
 ⟨h.wo.below hb, h.rds.chg (C := fun _ => False) (G.Chg.of_below hb (Nat.le_refl _)) (fun _ _ h => h), h.chg.trans (G.Chg.of_below hb (Nat.le_refl _))⟩
theorem GlMid.drew {RT R Q : Nat → Prop} {w wx : World} {p : Wp} {m : Wo} {v : Value} {rs : List RdV} (h : GlMid RT R w wx p m v rs Q) : GlMid RT R w wx.drew p m v rs Q := h.below (Below.refl _ _).drew
theorem GlMid.drewN {RT R Q : Nat → Prop} {w wx : World} {p : Wp} {m : Wo} {v : Value} {rs : List RdV} (h : GlMid RT R w wx p m v rs Q) (n : Nat) : GlMid RT R w (wx.drewN n) p m v rs Q := h.below ⟨rfl, rfl, rfl, Nat.le_refl _, fun _ _ => rfl⟩
def GRd (RT R : Nat → Prop) (w : World) (p : Wp) (m : Wo) (t : Trg) (x : Bool) (wx : World) : Prop :=
 ∃ (r : RdV) (Q : Nat → Prop), G.At wx w.heap.size 142 #[.bool r.failed, .slice r.A r.xs.length r.cap] ∧ r.rd = readOf t x m.t m.q m.now ∧ NumsOf Q wx r.A r.xs ∧ r.xs.length ≤ 20 ∧ (∀ b, Q b → w.heap.size ≤ b) ∧ GloN RT (fun b => R b ∨ Q b) wx p { m with q := qAfter [t] m.q m.now } ∧ G.Chg (fun b => ¬ R b) w wx
theorem GloN.rtlt {RT R : Nat → Prop} {w : World} {p : Wp} {m : Wo} (h : GloN RT R w p m) : ∀ b, RT b → b < w.heap.size := by obtain ⟨a, ha, _⟩ := h; exact fun b hb => (ha.rt b hb).2
theorem gloMany' {RT R : Nat → Prop} {w : World} {p : Wp} {m : Wo} (fate : Int) (h : GloN RT R w p m) : Calls Tryz.prog 81 #[.pointer (some ⟨p.gb, 0, none⟩), .int .i64 (-1), .int .i64 fate] w fun e w' => e = .returned (.int .i64 (G.countF (-1) fate m.b)) ∧ w' = w := (gloMany fate w h).mono fun _ _ h => ⟨h.1, h.2.symm⟩
theorem GloN.drewN {RT R : Nat → Prop} {w : World} {p : Wp} {m : Wo} (h : GloN RT R w p m) (n : Nat) : GloN RT R (w.drewN n) p m := h.below ⟨rfl, rfl, rfl, Nat.le_refl _, fun _ _ => rfl⟩
theorem grd_end {RT R Q : Nat → Prop} {w w2 wf : World} {p : Wp} {m : Wo} {t : Trg} {x : Bool} {A : Option Addr} {cap : Nat} {xs : List Int} (hR : ∀ b, R b → b < w.heap.size) (hT : ∀ b, RT b → b < w.heap.size) (h2 : GloN RT (fun b => R b ∨ Q b) w2 p { m with q := qAfter [t] m.q m.now }) (hQ : ∀ b, Q b → w.heap.size ≤ b) (hc : G.Chg (fun b => ¬ R b) w w2) (q0 : Q w.heap.size)
  (hn : NumsOf (fun b => Q b ∧ b ≠ w.heap.size) w2 A xs) (hl : xs.length ≤ 20) (hf : G.Chg (fun b => b = w.heap.size) w2 wf) (hA : G.At wf w.heap.size 142 #[.bool x, .slice A xs.length cap]) (hr : (⟨x, xs⟩ : Rd) = readOf t x m.t m.q m.now) : GRd RT R w p m t x wf :=
 ⟨⟨x, A, cap, xs⟩, Q, hA, hr, (hn.chg hf (fun b hb e => hb.2 e)).mono (fun b hb => hb.1), hl, hQ, (h2.grow hf (fun b hb => .inr (hb ▸ q0)) (fun b hb e => by have := hT b hb; omega)).mono (fun b hb => .inl hb), hc.trans (hf.mono fun b _ hb hRb => by have := hR b hRb; omega)⟩
open Go.RowKit
theorem gloTick (RT R : Nat → Prop) (p : Wp) (m : Wo) (j : Nat) (w : World) (h : GloN RT R w p m) (hk : m.ok j) (hj : j ≤ 88000) (hn : m.now < 1099511627776) :
  Calls Tryz.prog 32 #[.pointer (some ⟨p.g, 0, none⟩)] w (GloPost RT R w p (.tuple #[]) m.tick) := by
 obtain ⟨i0, hi, hz0, hz1, hz2⟩ := info_parts rd_info
 have x7 := h.at.here (i := 7) rfl
 have f7 := h.at.soft 7
 have n0 := hk.now0
 have HH := J (h.put 7 (.int .i64 (m.now + 1)) (m' := { m with now := m.now + 1 }) rfl rfl rfl rfl rfl rfl rfl rfl rfl rfl)
 have HLt := J (ok_late hk hn)
 have HNu := J hk.fair.num
 have HR := J (fun b (hb : R b) => h.lt hb)
 have HRT := J h.rtlt
 clear h hk
 go_enter Tryz.func32, Tryz.ntmps32
 go_upto_region 1 with fail
 clear x7 f7
 obtain ⟨W, hW⟩ : ∃ W, Hid (w.setCell ⟨p.g, 7, none⟩ (.int .i64 (m.now + 1)) = W) := ⟨_, J rfl⟩
 rw [hW.u] at HH ⊢
 clear hW
 have x4 := HH.u.1.at.here (i := 4) rfl
 have x7 := HH.u.1.at.here (i := 7) rfl
 go_region_held3 (fun w' => w'.cell? ⟨p.g, 4, none⟩ = some (.pointer (some ⟨p.gb, 0, none⟩)) ∧ w'.cell? ⟨p.g, 7, none⟩ = some (.int .i64 (m.now + 1))) (first | exact ⟨y4, y7⟩ | exact ⟨x4, x7⟩ | go_keep) ((go_at_call 78; refine (gloLate (m.now + 1) _ HH.u.1.drew HNu.u).mono ?_; rintro e w2 ⟨⟨v, rfl⟩, hc2⟩; have y4 := hc2.1.at.here (i := 4) rfl; have y7 := hc2.1.at.here (i := 7) rfl))
 all_goals
  have HC2 := J (show GloK RT R w w2 p m.late from GloK.trans HH.u.2.drew hc2)
  have y0 := HC2.u.1.at.here (i := 0) rfl
  clear hc2 y4 x4 x7 HH
  go_upto_region 2 with fail
  go_region_held3 (fun w' => w'.cell? ⟨p.g, 0, none⟩ = some (.pointer (some ⟨p.gl, 0, none⟩)) ∧ w'.cell? ⟨p.g, 7, none⟩ = some (.int .i64 (m.now + 1))) (first | exact ⟨z0, z7⟩ | exact ⟨y0, y7⟩ | go_keep) ((go_at_call 79; refine (gloDue (m.now + 1) j _ HC2.u.1.drew HLt.u.lp (by omega) (by omega)).mono ?_; rintro e w3 ⟨rfl, hc3⟩; have z0 := hc3.1.at.here (i := 0) rfl; have z7 := hc3.1.at.here (i := 7) rfl))
  all_goals
   have HC3 := J (show GloK RT R w w3 p m.late from GloK.trans HC2.u.2.drew hc3)
   clear hc3 y0 y7 z0 z7 HC2
   cases hd : dueB m.late.l (m.now + 1)
   ·have HSe := J (show m.tick = m.late.on by unfold Wo.tick Wo.seen; rw [if_neg (show ¬ dueB m.late.l m.late.now = true by rw [show m.late.now = m.now + 1 from rfl, hd]; simp)])
    clear hd
    go_wp2_with fail
    refine (gloOn RT R p m.late j _ HC3.u.1 HLt.u).mono ?_
    rintro e w4 ⟨rfl, hc4⟩
    have HC4 := J (GloK.trans HC3.u.2 hc4)
    clear hc4
    go_wp2_with fail
    go_end0
    exact ⟨rfl, by rw [HSe.u]; exact HC4.u⟩
   have HSe := J (show m.tick = m.late.look.on by unfold Wo.tick Wo.seen; rw [if_pos (show dueB m.late.l m.late.now = true by rw [show m.late.now = m.now + 1 from rfl, hd])])
   have HTk := J (show ∀ wz, GloK RT R w wz p m.late.look.on → GloPost RT R w p (.tuple #[]) m.tick (.returned (.tuple #[])) wz from fun wz hz => ⟨rfl, by rw [HSe.u]; exact hz⟩)
   clear hd HSe n0 hn HNu
   generalize m.late = m1 at HC3 HLt HTk
   have HC3z := J HC3.u.2.size
   obtain ⟨Af, cf, ef, _⟩ := HC3.u.1.failv
   have HFew := J (planE_ok HLt.u.lp.plan).few
   have HFl := J HLt.u.fails
   have hn5 : (m1.fails.length : Int) ≤ 5 := by have := HFew.u; have := HFl.u; omega
   have HEf := J ef
   have HS := J (show GlRun RT R w w3 p m1 0 (.slice none 0 0) [] (fun _ => False) (fun _ => False) from ⟨rfl, rfl, G.OwnRow.nil _ _ _ _, fun r hr => (by cases hr), fun _ h => h.elim, fun _ h => h.elim (fun h => h.elim) (fun h => h.elim), HC3.u.1.mono fun b hb => hb.elim id (fun h => h.elim (fun h => h.elim) (fun h => h.elim)), HC3.u.2⟩)
   clear ef HC3
   go_wp2_with fail
   go_loopw [2, 3] (fun v i wr => ∃ k : Nat, k ≤ m1.fails.length ∧ i = .int .i64 k ∧ Hid (∃ rs S Q, GlRun RT R w wr p m1 k v rs S Q)) (fun _ i _ => m1.fails.length - (intOf i).toNat)
   case atStart => exact ⟨0, Nat.zero_le _, rfl, J ⟨_, _, _, HS.u⟩⟩
   clear HS
   obtain ⟨k, hkn, rfl, HL⟩ := hrel
   obtain ⟨rs, S, Q, hL⟩ := HL.u
   have HLr := J hL
   have HRz := J (show ∀ b, (R b ∨ (S b ∨ Q b)) → b < wr.heap.size from fun b hb => hL.wo.lt hb)
   have HTz := J hL.wo.rtlt
   obtain ⟨A2, cap2, rfl, _, _, _⟩ := hL.row.slice
   have x5 : wr.cell? ⟨p.g, 5, none⟩ = some (.slice Af m1.fails.length cf) := HEf.u ▸ hL.wo.at.here (i := 5) rfl
   by_cases hlt : k < m1.fails.length
   ·obtain ⟨t, ht⟩ := G.get_some m1.l.p.trigs (show k < m1.l.p.trigs.length by have := HFl.u; omega)
    obtain ⟨x, hx⟩ := G.get_some m1.fails hlt
    obtain ⟨Af', cf', ef', hAf⟩ := hL.wo.failv
    rw [HEf.u] at ef'
    injection ef' with e1 _ _
    obtain ⟨bf, e2, hbl, hbR, hbg, hcl⟩ := hAf (by show 0 < m1.fails.length; omega)
    have c0 : wr.cell? ⟨bf, k, none⟩ = some (.bool x) := (hcl k x hx).1
    rw [e2] at e1
    subst e1
    have HT := J ht; have HX := J hx
    have hk0 : (0 : Int) ≤ (k : Int) := by omega
    have hk1 : (k : Int) < (m1.fails.length : Int) := by omega
    have HGr := J (hL.wo.grow ((G.Chg.refl (fun _ => False) wr).alloc (.cells #[.bool x, .slice none 0 0] 142)) (fun _ h => h.elim) (fun _ _ h => h))
    have HAt := J (G.At.made wr 142 #[.bool x, .slice none 0 0])
    have HCg := J (((G.Chg.refl (fun b => ¬ (R b ∨ (S b ∨ Q b))) wr).alloc (.cells #[.bool x, .slice none 0 0] 142)))
    clear hL HL ht hx hAf e2 hbl hbR hbg hcl
    go_upto_region 8 with fail
    change Code.wp Tryz.prog _ _ _ (wr.alloc (.cells #[.bool x, .slice none 0 0] 142))
    generalize wr.alloc (.cells #[.bool x, .slice none 0 0] 142) = W7 at HGr HAt HCg ⊢
    clear x5 c0
    have x0 := HGr.u.at.here (i := 0) rfl
    obtain ⟨gs, lf, hWa, _⟩ := HGr.u.watch
    obtain ⟨At, capt, et, hAt⟩ := HGr.u.rtIn
    obtain ⟨bt, offt, rfl, _, hbt, hct⟩ := hAt (by have := G.get_lt HT.u; show 0 < m1.l.p.trigs.length; omega)
    have x17 : W7.cell? ⟨p.gl, 17, none⟩ = some (.slice (some ⟨bt, offt, none⟩) m1.l.p.trigs.length capt) := et ▸ hWa.here (i := 17) rfl
    have k0 : W7.cell? ⟨bt, offt + k * 17, none⟩ = some (.int .i64 t.kind) := hct k t 0 _ HT.u rfl
    have i2 : (k : Int) < (m1.l.p.trigs.length : Int) := by have := G.get_lt HT.u; omega
    have i4 : (m1.l.p.trigs.length : Int) ≤ 5 := by have := HFew.u; omega
    clear hWa et hAt hbt hct
    obtain ⟨m2, hm2⟩ : ∃ m2, ({ m1 with q := qAfter (m1.l.p.trigs.take k) m1.q m1.now } : Wo) = m2 := ⟨_, rfl⟩
    have HM2 := J hm2
    rw [hm2] at HGr
    clear hm2
    go_upto_block 2 with fail
    go_cut [] (fun wx => Hid (GRd RT (fun b => R b ∨ (S b ∨ Q b)) wr p m2 t x wx))
    case first =>
     clear x0 x17 i2 i4 hk0 hk1 HFew HFl HTk HC3z HR HRT
     have HTp2 := J (show Small m2.t by rw [← HM2.u]; exact HLt.u.tp)
     have HTn2 := J (show m2.t.length ≤ 20 by rw [← HM2.u]; exact HLt.u.tn)
     clear HM2 HLt HLr HX HT
     have hlt7 : wr.heap.size < W7.heap.size := HAt.u.inside
     have HLt7 := J hlt7
     clear hlt7
     by_cases hk1 : t.kind = 1
     ·have HE := J (show (⟨x, lagsOf m2.t⟩ : Rd) = readOf t x m2.t m2.q m2.now by unfold readOf; rw [if_pos hk1])
      have HQa := J (show qAfter [t] m2.q m2.now = m2.q by unfold qAfter isDepth; simp [hk1])
      have hk1b : (t.kind == 1) = true := by simpa using hk1
      have x1 := HGr.u.at.here (i := 1) rfl
      clear hk1 k0
      go_upto_region 10 with fail
      go_wp2_with fail
      refine (gloLags _ HGr.u HTp2.u).mono ?_
      rintro e w2 ⟨v, rfl, ho, hb2⟩
      have hz2 := hb2.size
      have hO := G.OwnRow.of_owns (S := fun b => W7.heap.size ≤ b) ho (fun g hg => G.own_ge ho g hg)
      obtain ⟨A3, cap3, rfl, _, _, _⟩ := hO.slice
      have hA2 := HAt.u.below hb2 HAt.u.inside
      have hG2 := HGr.u.grow (C := fun _ => False) (G.Chg.of_below hb2 (Nat.le_refl _)) (fun _ h => h.elim) (fun _ _ h => h)
      have y1 := hA2.here (i := 1) rfl
      have p1 := hA2.soft 1
      have HF := J (show GRd RT (fun b => R b ∨ (S b ∨ Q b)) wr p m2 t x (w2.setCell ⟨wr.heap.size, 1, none⟩ (.slice A3 (lagsOf m2.t).length cap3)) from
       grd_end (Q := fun b => wr.heap.size ≤ b ∧ b < w2.heap.size) (w2 := w2) HRz.u HTz.u (by
        rw [HQa.u]
        exact hG2.mono fun b hb => by
         rcases hb with hb | hb
         ·exact .inl (.inl hb)
         by_cases c : b < W7.heap.size
         ·exact .inl (.inr ⟨hb.1, c⟩)
         exact .inr ⟨by omega, hb.2⟩) (fun b hb => hb.1) (HCg.u.trans (G.Chg.of_below hb2 (Nat.le_refl _))) ⟨Nat.le_refl _, by have := HLt7.u; omega⟩
        ((nums_of_row hO).keep fun b hb hlt => ⟨⟨by have := HLt7.u; omega, hlt⟩, by have := HLt7.u; omega⟩) (by rw [lags_length]; exact HTn2.u) ((G.Chg.refl (fun b => b = wr.heap.size) w2).put (p := ⟨wr.heap.size, 1, none⟩) (.inl rfl) _) (hA2.put 1 _) HE.u)
      clear ho hb2 hO hA2 hG2 hz2 x1 HGr HAt HCg HRz HTz HE HQa
      go_wp2_with fail
      go_meet
      exact HF
     have hk1b : (t.kind == 1) = false := by simpa using hk1
     by_cases hk2 : t.kind = 2
     ·have HE := J (show (⟨x, [G.depthNum m2.q m2.now]⟩ : Rd) = readOf t x m2.t m2.q m2.now by unfold readOf; rw [if_neg hk1, if_pos hk2])
      have HQa := J (show qAfter [t] m2.q m2.now = G.nowLst m2.q m2.now by unfold qAfter isDepth; simp [hk2])
      have hk2b : (t.kind == 2) = true := by simpa using hk2
      have x2 := HGr.u.at.here (i := 2) rfl
      have x7 := HGr.u.at.here (i := 7) rfl
      clear hk1 hk2 k0
      go_upto_region 12 with fail
      go_region_held3 (fun w' => w'.cell? ⟨p.g, 2, none⟩ = some (.pointer (some ⟨p.gq, 0, none⟩)) ∧ w'.cell? ⟨p.g, 7, none⟩ = some (.int .i64 m2.now)) (first | exact ⟨v2, v7⟩ | go_keep) ((go_at_call 80; refine (gloDepth m2.now _ HGr.u.drew).mono ?_; rintro e w2 ⟨rfl, hc⟩; have v2 := hc.1.at.here (i := 2) rfl; have v7 := hc.1.at.here (i := 7) rfl))
      all_goals
       have hz2 : W7.heap.size ≤ w2.heap.size := hc.2.size
       have hA2 := At.kept HAt.u.drew hc.2 (.inr ⟨Nat.le_refl _, HLt7.u⟩)
       have HA2 := J hA2
       have y1 := hA2.here (i := 1) rfl
       have p1 := hA2.soft 1
       have hG := hc.1.grow ((G.Chg.refl (fun _ => False) w2).alloc (.cells #[.int .i64 (G.depthNum m2.q m2.now)] 3)) (fun _ h => h.elim) (fun _ _ h => h)
       have hNew := G.At.made w2 3 #[.int .i64 (G.depthNum m2.q m2.now)]
       have HF := J (fun (wf : World) (hf : G.Chg (fun b => b = wr.heap.size) (w2.alloc (.cells #[.int .i64 (G.depthNum m2.q m2.now)] 3)) wf) (hA : G.At wf wr.heap.size 142 #[.bool x, .slice (some ⟨w2.heap.size, 0, none⟩) 1 1]) => show GRd RT (fun b => R b ∨ (S b ∨ Q b)) wr p m2 t x wf from
        grd_end (xs := [G.depthNum m2.q m2.now]) (Q := fun b => (wr.heap.size ≤ b ∧ b < W7.heap.size) ∨ (w2.heap.size ≤ b ∧ b < (w2.alloc (.cells #[.int .i64 (G.depthNum m2.q m2.now)] 3)).heap.size)) HRz.u HTz.u (by
         rw [HQa.u]
         exact hG.mono fun b hb => by
          rcases hb with hb | hb | hb
          ·exact .inl (.inl hb)
          ·exact .inl (.inr hb)
          exact .inr hb) (fun b hb => by rcases hb with hb | hb; exact hb.1; have := HLt7.u; omega)
         ((HCg.u.drew.trans (hc.2.mono fun b _ h hR => h (.inl hR))).alloc _) (.inl ⟨Nat.le_refl _, HLt7.u⟩)
         (fun _ => ⟨w2.heap.size, 0, rfl, ⟨.inr ⟨Nat.le_refl _, hNew.inside⟩, by have := HLt7.u; omega⟩, hNew.inside, fun i y hi => by rcases i with _ | i; simp at hi; subst hi; exact hNew.here rfl; simp at hi⟩) (by simp) hf hA HE.u)
       clear hc hG hNew hA2 v2 v7 x2 x7 HGr HCg HRz HTz HE HQa HAt
       have hzb : wr.heap.size < w2.heap.size := by have := HLt7.u; omega
       go_wp2_with fail
       go_meet
       exact J (HF.u _ (chg_alloc_both ((G.Chg.refl (fun b => b = wr.heap.size) w2).put (p := ⟨wr.heap.size, 1, none⟩) (.inl rfl) _) (by simp [World.setCell]) _) ((HA2.u.put 1 _).alloc _))
     have hk2b : (t.kind == 2) = false := by simpa using hk2
     have HE := J (show (⟨x, []⟩ : Rd) = readOf t x m2.t m2.q m2.now by unfold readOf; rw [if_neg hk1, if_neg hk2])
     have HQa := J (show qAfter [t] m2.q m2.now = m2.q by unfold qAfter isDepth; simp [hk2])
     have HF := J (show GRd RT (fun b => R b ∨ (S b ∨ Q b)) wr p m2 t x W7 from ⟨⟨x, none, 0, []⟩, fun b => wr.heap.size ≤ b ∧ b < W7.heap.size, HAt.u, HE.u, fun h0 => by simp at h0, by simp, fun b hb => hb.1, by rw [HQa.u]; exact HGr.u, HCg.u⟩)
     clear hk1 hk2 HGr HAt HCg HRz HTz HE HQa
     go_wp2_with fail
     go_meet
     exact HF
    clear x0 x17 k0 HGr HAt HCg
    rw [← HM2.u] at hcut
    obtain ⟨r, Q1, hA, h1, h2, h3, h4, h5, h6⟩ := hcut.u
    have y0 := hA.here (i := 0) rfl
    have y1 := hA.here (i := 1) rfl
    have HRow := J ((HLr.u.row.chg h6 (fun b hb h => h (.inr (.inl hb)))).alloc (.cells #[.bool r.failed, .slice r.A r.xs.length r.cap] 142))
    have HNx := J (fun (v' : Value) (w5 : World) => GlRun.next (v' := v') (w5 := w5) (o := .cells #[.bool r.failed, .slice r.A r.xs.length r.cap] 142) HR.u HRT.u HLr.u HT.u HX.u h1 h2 h3 h4 h5 h6)
    have hm3 := J (show k + 1 ≤ maxLen by have := HFew.u; have := HFl.u; simp only [maxLen]; omega)
    have hm4 := J (show (k + 1) * 32 ≤ 140737488355328 by have := HFew.u; have := HFl.u; omega)
    clear h1 h2 h3 h4 h5 h6 hA hcut
    go_upto_region 14 with fail
    go_wp2_with (at_builtin; refine wpList_append_lies _ (by rfl) (.tmp 87) (.tmp 89) 140 (by rfl) 0 142 i0 (.agg #[.bool false, .slice none 0 0]) 2 32 Tryz.underlying140 hi hz0 hz1 hz2 rfl (by decide) (.slice A2 k cap2) _ _ rfl HRow.u.owns ⟨wc.heap.size, 0, none⟩ 1 1 [.bool r.failed, .slice r.A r.xs.length r.cap] rfl rfl (G.new_cells wc _ _) (by simp [Value.oneCell']) (by decide) hm3.u hm4.u (Nat.zero_le _) _ rfl ?_)
    intro b2 cap3 w5 hown hg ho hlt2
    have HN := J (HNx.u _ _ hown hg (by
     rcases ho with e | e
     ·left; rw [e]; rfl
     right; rw [e]; simp [Value.ownBlock]) (fun g hgb => by simp [Value.ownBlock] at hgb; omega))
    clear hown hg ho hlt2 HRow HNx y0 y1
    go_wp2_with fail
    go_roundw
    case rel =>
     obtain ⟨S', Q', hN⟩ := HN.u
     exact ⟨k + 1, by omega, by go_num, J ⟨_, S', Q', hN⟩⟩
    case measure => simp [intOf]; omega
   have hke : k = m1.fails.length := by omega
   subst hke
   have hMid : GlMid RT R w wr p { m1 with q := qAfter m1.l.p.trigs m1.q m1.now } (.slice A2 m1.fails.length cap2) rs (fun b => S b ∨ Q b) := by
    refine ⟨?_, ?_, hL.chg⟩
    ·have := hL.wo; rw [HFl.u, List.take_length] at this; exact this
    have h1 := hL.row
    rw [← hL.len] at h1 ⊢
    exact rds_of h1 hL.nums
   have HRs := J (show rs.map RdV.rd = m1.reads by
    have := hL.rds
    rw [List.take_of_length_le (by unfold Wo.reads; rw [readsOf_length HFl.u]; rw [HFl.u]; exact Nat.le_refl _)] at this; exact this)
   have HLn := J (show rs.length ≤ 9223372036854775807 by rw [hL.len]; have := HFew.u; have := HFl.u; omega)
   have HM := J hMid
   clear hL HL HLr hMid HRz HTz
   generalize Value.slice A2 m1.fails.length cap2 = vl at HM ⊢
   have c0 : (0 : Int) ≤ G.countF (-1) 1 m1.b := G.countF_nn _ _ _
   have c1 : (0 : Int) ≤ G.countF (-1) 2 m1.b := G.countF_nn _ _ _
   have c2 : G.countF (-1) 1 m1.b ≤ 200 := by have := HLt.u.bn; have := List.countP_le_length (p := G.hasF (-1) 1) (l := m1.b); unfold G.countF; omega
   have c3 : G.countF (-1) 2 m1.b ≤ 200 := by have := HLt.u.bn; have := List.countP_le_length (p := G.hasF (-1) 2) (l := m1.b); unfold G.countF; omega
   have q1 : IntKind.i64.wrap (G.countF (-1) 1 m1.b + G.countF (-1) 2 m1.b) = G.countF (-1) 1 m1.b + G.countF (-1) 2 m1.b := IntWalk.i64_in _ (by omega)
   have HBz := J (show decide (0 < G.countF (-1) 1 m1.b + G.countF (-1) 2 m1.b) = m1.busy from rfl)
   have x4 := HM.u.wo.at.here (i := 4) rfl
   go_upto_region 15 with fail
   clear x5
   go_cut [7] (fun s wx => s = .bool m1.busy ∧ Hid (GlMid RT R w wx p { m1 with q := qAfter m1.l.p.trigs m1.q m1.now } vl rs (fun b => S b ∨ Q b)))
   case first =>
    go_quiet ((go_at_call 81; exact Calls.quiet_of_same (gloMany' _ (HM.u.wo.drewN _))))
    all_goals
     rw [HBz.u]
     have HD := J (fun n => HM.u.drewN n)
     go_wp2_with fail
     go_meet
     exact ⟨rfl, J (HD.u _)⟩
   obtain ⟨rfl, hM3⟩ := hcut
   clear HM x4 c0 c1 c2 c3 q1 HBz
   have s0 := HLt.u.sec0
   have s1 := HLt.u.sec1
   have n0 := HLt.u.now0
   have n1 := HLt.u.now1
   have x0 := hM3.u.wo.at.here (i := 0) rfl
   have x3 := hM3.u.wo.at.here (i := 3) rfl
   have x6 := hM3.u.wo.at.here (i := 6) rfl
   have x7 := hM3.u.wo.at.here (i := 7) rfl
   have x8 := hM3.u.wo.at.here (i := 8) rfl
   have f8 := hM3.u.wo.at.soft 8
   have q1 : IntKind.i64.wrap (m1.sec + m1.now) = m1.sec + m1.now := IntWalk.i64_in _ (by omega)
   obtain ⟨sx, hsx⟩ : ∃ sx, min (m1.sec + m1.now) 100000000000 = sx := ⟨_, rfl⟩
   have E1 : (if 100000000000 < m1.sec + m1.now then (100000000000 : Int) else m1.sec + m1.now) = sx := by omega
   have HSx := J hsx
   have HTold := J (show lookN m1.l m1.now sx (G.liveN m1.f) m1.reads m1.busy = m1.told by unfold Wo.told; rw [hsx])
   clear hsx
   go_upto_region 16 with fail
   go_region_held3 (fun w' => w'.cell? ⟨p.g, 0, none⟩ = some (.pointer (some ⟨p.gl, 0, none⟩)) ∧ w'.cell? ⟨p.g, 3, none⟩ = some (.pointer (some ⟨p.gf, 0, none⟩)) ∧ w'.cell? ⟨p.g, 6, none⟩ = some (.int .i64 m1.sec) ∧ w'.cell? ⟨p.g, 7, none⟩ = some (.int .i64 m1.now)) (first | exact ⟨u0, u3, u6, u7⟩ | exact ⟨z0, z3, z6, z7⟩ | exact ⟨x0, x3, x6, x7⟩ | go_keep) (first | (go_at_call 83; refine (gloLive _ hM3.u.drew.wo).mono ?_; rintro e w4 ⟨rfl, rfl⟩) | (go_at_call 82; refine (gloLook (fun b => S b ∨ Q b) vl m1.now _ _ rs m1.busy j _ hM3.u.drew.wo hM3.u.drew.rds (fun b hb => .inr hb) HLt.u.lp (by omega) HLn.u).mono ?_; rintro e w5 ⟨he, hc5⟩; rw [HRs.u] at he hc5; rw [show lookN _ m1.now _ _ m1.reads m1.busy = m1.told from HTold.u] at he; subst he; have z0 := hc5.1.at.here (i := 0) rfl; have z3 := hc5.1.at.here (i := 3) rfl; have z6 := hc5.1.at.here (i := 6) rfl; have z7 := hc5.1.at.here (i := 7) rfl; have z8 := hc5.1.at.here (i := 8) rfl; have p8 := hc5.1.at.soft 8; have HT := J (hc5.1.put 8 (.int .i64 m1.told) (m' := { m1 with l := lookL m1.l m1.now sx (G.liveN m1.f) m1.reads m1.busy, q := qAfter m1.l.p.trigs m1.q m1.now, target := m1.told }) rfl rfl rfl rfl rfl rfl rfl rfl rfl rfl); have u0 := HT.u.1.at.here (i := 0) rfl; have u3 := HT.u.1.at.here (i := 3) rfl; have u6 := HT.u.1.at.here (i := 6) rfl; have u7 := HT.u.1.at.here (i := 7) rfl) | (go_simp; (try simp only [E1])))
   all_goals
    have HC5 := J ((hM3.u.chg.drew.trans (hc5.2.mono fun b _ hb hR => hb (.inl hR))).trans (HT.u.2.mono fun b _ hb hR => hb (.inl hR)))
    have HT6 := J HT.u.1
    clear hc5 hM3 x0 x3 x6 x7 x8 f8 z0 z3 z6 z7 z8 p8 u0 u3 u6 u7 HT
    obtain ⟨W6, hW6⟩ : ∃ W6, Hid (w5.setCell ⟨p.g, 8, none⟩ (.int .i64 m1.told) = W6) := ⟨_, J rfl⟩
    rw [hW6.u] at HT6 HC5 ⊢
    clear hW6
    have x3 := HT6.u.at.here (i := 3) rfl
    have x8 := HT6.u.at.here (i := 8) rfl
    go_upto_region 17 with fail
    go_region_held3 (fun w' => w'.cell? ⟨p.g, 3, none⟩ = some (.pointer (some ⟨p.gf, 0, none⟩)) ∧ w'.cell? ⟨p.g, 8, none⟩ = some (.int .i64 m1.told)) (first | exact ⟨y3, y8⟩ | exact ⟨x3, x8⟩ | go_keep) ((go_at_call 84; refine (gloScale m1.told _ HT6.u.drew HLt.u.crew (by have := HLt.u.most0; show 0 ≤ m1.most; omega) (by have := HLt.u.fn; show m1.f.length ≤ 9000000; omega) (by have := HLt.u.fl1; show m1.fl ≤ 1000000000000; omega)).mono ?_; rintro e w7 ⟨rfl, hc7⟩; have y3 := hc7.1.at.here (i := 3) rfl; have y8 := hc7.1.at.here (i := 8) rfl))
    all_goals
     have HF := J (show GloK RT R w w7 p m1.look by
      have h1 := hc7.1.mono (R' := R) (fun _ hb => .inl hb)
      rw [← HSx.u] at h1
      exact ⟨h1, HC5.u.drew.trans (hc7.2.mono fun b _ hb hR => hb (.inl hR))⟩)
     clear hc7 x3 x8 y3 y8
     go_wp2_with fail
     refine (gloOn RT R p m1.look (j + 1) _ HF.u.1 (ok_look HLt.u)).mono ?_
     rintro e w8 ⟨rfl, hc8⟩
     have HG := J (HTk.u w8 (GloK.trans HF.u.2 hc8))
     clear hc8
     go_wp2_with fail
     go_end0
     exact HG.u
end Go.Proofs.YtidonhndeohdlaaGreat
