/- Parts of this claim: LopM, WldM, LopC, LopE, LopF, LopJ, LopH. -/
import Derived.Test.YtoidcbpcnikejaaGreatDoorDqNeedD
import Derived.Test.YtoidcbpcnikejaaGreatDoorDqPlnE
import Derived.Test.YtoidcbpcnikejaaGreatDoorDq12
set_option linter.unusedVariables false
set_option linter.unusedSimpArgs false
set_option maxRecDepth 100000
set_option maxHeartbeats 12800000
namespace Go.Proofs.YtoidcbpcnikejaaGreatDoor
open Go.RowKit
structure Rd where
 failed : Bool
 xs : List Int
structure Lp where
 p : Pln
 s : G.Stb
 fails : List Int
 looked : Bool
 last : Int
 needed : Int
 pause : Int
def failOf (t : Trg) (r : Rd) (f : Int) : Int := if r.failed && !(t.kind == 3) then f + 1 else 0
def failsL : List Trg → List Rd → List Int → List Int
 | t :: ts, r :: rs, f :: fs => failOf t r f :: failsL ts rs fs
 | _, _, _ => []
def needT (t : Trg) (sec shift : Int) (r : Rd) : Int × Bool × Int := needR t.a t.b t.kind t.target t.act sec shift r.failed (G.metN t.kind (G.spot r.xs) r.xs.length) ((G.metM t.kind (G.spot r.xs) r.xs.length : Nat) : Int)
def wantT (t : Trg) (now tol : Int) (r : Rd) : Int × Int := wantR now tol t.kind t.target r.failed (G.metN t.kind (G.spot r.xs) r.xs.length) (needT t 0 0 r).1
def oneT (p : Pln) (t : Trg) (f : Int) (r : Rd) (sec have0 : Int) : Int × Bool :=
 if 0 < f then (if 0 < p.after ∧ p.after ≤ f then p.back else have0, true)
 else (if t.kind = 3 then (needT t sec p.shift r).1 else (wantT t have0 p.tol r).1, (needT t sec p.shift r).2.1)
def allT (p : Pln) (sec have0 : Int) : List Trg → List Rd → List Int → Int × Bool → Int × Bool
 | t :: ts, r :: rs, f :: fs, (w, b) => allT p sec have0 ts rs fs (max w (oneT p t f r sec have0).1, b || (oneT p t f r sec have0).2)
 | _, _, _, x => x
def lookOk (l : Lp) (now sec have0 : Int) (n : Nat) : Bool := decide (l.last ≤ now) && (decide (now ≤ 1099511627776) && (decide (-100000000000 ≤ sec) && (decide (sec ≤ 100000000000) && (decide (0 ≤ have0) && (decide (have0 ≤ 50) && decide (n = l.p.trigs.length))))))
def lowOf (p : Pln) (needed now have0 : Int) (b : Bool) : Int := if b then max p.mn 1 else if now - p.cool < needed then max p.mn (min have0 1) else p.mn
def clipOf (low mx n : Int) : Int := min (max n low) mx
def Lp.seen (l : Lp) (now : Int) (rs : List Rd) : Lp := { l with looked := true, last := now, fails := failsL l.p.trigs rs l.fails }
def Lp.told (l : Lp) (sec have0 : Int) (rs : List Rd) (busy : Bool) : Int × Bool := allT l.p sec have0 l.p.trigs rs l.fails (0, busy)
def Lp.marked (l : Lp) (now : Int) (b : Bool) : Lp := if b then { l with needed := now } else l
def Lp.wish (l : Lp) (now sec have0 : Int) (rs : List Rd) (busy : Bool) : Int :=
 clipOf (lowOf l.p (l.marked now (l.told sec have0 rs busy).2).needed now have0 (l.told sec have0 rs busy).2) l.p.mx (l.told sec have0 rs busy).1
def lookN (l : Lp) (now sec have0 : Int) (rs : List Rd) (busy : Bool) : Int :=
 if lookOk l now sec have0 rs.length = false then 0
 else if 0 ≤ l.pause then l.pause
 else clipOf (lowOf l.p ((l.seen now rs).marked now ((l.seen now rs).told sec have0 rs busy).2).needed now have0 ((l.seen now rs).told sec have0 rs busy).2) l.p.mx (G.settleN l.s now have0 ((l.seen now rs).wish now sec have0 rs busy))
def lookE (l : Lp) (now sec have0 : Int) (n : Nat) : Int := if lookOk l now sec have0 n = false then 1 else 0
def lookL (l : Lp) (now sec have0 : Int) (rs : List Rd) (busy : Bool) : Lp :=
 if lookOk l now sec have0 rs.length = false then l
 else if 0 ≤ l.pause then l.seen now rs
 else { (l.seen now rs).marked now ((l.seen now rs).told sec have0 rs busy).2 with s := G.settleS l.s now have0 ((l.seen now rs).wish now sec have0 rs busy) }
def dueB (l : Lp) (now : Int) : Bool := !l.looked || (decide (l.last ≤ now) && decide (l.p.poll ≤ now - l.last))
def pauseE (n : Int) : Int := if n < -1 ∨ 50 < n then 1 else 0
def pauseL (l : Lp) (n : Int) : Lp := if n < -1 ∨ 50 < n then l else { l with pause := n }
structure Lp.ok (l : Lp) (j : Nat) : Prop where
 plan : planE l.p = 0
 fits : ∀ t ∈ l.p.trigs, t.fits
 st : l.s.ok j
 sl : l.s.last ≤ l.last
 last0 : 0 ≤ l.last
 last1 : l.last ≤ 1099511627776
 need0 : 0 ≤ l.needed
 need1 : l.needed ≤ l.last
 many : l.fails.length = l.p.trigs.length
 fail : ∀ f ∈ l.fails, 0 ≤ f ∧ f ≤ j
 paus : -1 ≤ l.pause ∧ l.pause ≤ 50
def newLp (p : Pln) : Lp := ⟨p, ⟨p.up.fix, p.down.fix, 0, [], []⟩, List.replicate p.trigs.length 0, false, 0, 0, -1⟩
open Go.RowKit
structure Wo where
 l : Lp
 t : List (Int × Int)
 q : List G.Msg
 ql : Int
 f : List G.Pod
 fl : Int
 most : Int
 b : List G.Req
 fails : List Bool
 sec : Int
 now : Int
 target : Int
def onGoes (most : Int) (b : List G.Req) (f : List G.Pod) : Bool := decide (0 < G.nextN b) && (G.giveErr f most == 0)
def onN (most : Int) : Nat → List G.Req × List G.Pod → List G.Req × List G.Pod
 | 0, x => x
 | k + 1, x => if onGoes most x.1 x.2 then onN most k (G.runLst x.1 (G.nextN x.1) (G.giveNum x.2 most), G.giveLst x.2 most) else x
def Wo.on (m : Wo) : Wo := { m with b := (onN m.most m.b.length (m.b, m.f)).1, f := (onN m.most m.b.length (m.b, m.f)).2 }
def isDepth (t : Trg) : Bool := t.kind == 2
def readOf (t : Trg) (failed : Bool) (tp : List (Int × Int)) (q : List G.Msg) (now : Int) : Rd := ⟨failed, if t.kind = 1 then lagsOf tp else if t.kind = 2 then [G.depthNum q now] else []⟩
def readsOf (tp : List (Int × Int)) (q : List G.Msg) (now : Int) : List Trg → List Bool → List Rd
 | t :: ts, b :: bs => readOf t b tp q now :: readsOf tp q now ts bs
 | _, _ => []
def qAfter (ts : List Trg) (q : List G.Msg) (now : Int) : List G.Msg := if ts.any isDepth then G.nowLst q now else q
def Wo.reads (m : Wo) : List Rd := readsOf m.t m.q m.now m.l.p.trigs m.fails
def Wo.busy (m : Wo) : Bool := decide (0 < G.countF (-1) 1 m.b + G.countF (-1) 2 m.b)
def Wo.told (m : Wo) : Int := lookN m.l m.now (min (m.sec + m.now) 100000000000) (G.liveN m.f) m.reads m.busy
def Wo.look (m : Wo) : Wo := { m with
 l := lookL m.l m.now (min (m.sec + m.now) 100000000000) (G.liveN m.f) m.reads m.busy
 q := qAfter m.l.p.trigs m.q m.now
 f := G.scaleLst m.f m.fl m.told
 fl := G.scaleLast m.f m.fl m.told
 target := m.told }
def Wo.late (m : Wo) : Wo := { m with now := m.now + 1, b := G.lateLst m.b (m.now + 1) }
def Wo.seen (m : Wo) : Wo := if dueB m.l m.now then m.look else m
def Wo.tick (m : Wo) : Wo := m.late.seen.on
def ticksN : Nat → Wo → Wo
 | 0, m => m
 | k + 1, m => (ticksN k m).tick
def tickE (m : Wo) (n : Int) : Int := if n < 1 ∨ 1000 < n ∨ 1099511627776 - m.now < n then 1 else 0
def failE (m : Wo) (i n : Int) : Int := if i < 0 ∨ (m.fails.length : Int) ≤ i then 4 else if n ≠ 0 ∧ n ≠ 1 then 1 else 0
def doE (m : Wo) (k a n : Int) : Int :=
 if k = 1 then tickE m n
 else if k = 2 then makeErr m.t a n
 else if k = 3 then takeErr m.t a n
 else if k = 4 then G.putErr m.q n
 else if k = 5 then G.leaseErr m.q m.now n
 else if k = 6 then G.ackErr m.q m.now n
 else if k = 7 then failE m a n
 else if k = 8 then G.turnErr m.f n 1
 else if k = 9 then G.turnErr m.f n 2
 else if k = 10 then G.crashErr m.f n
 else if k = 11 then G.askErr m.b m.now a n
 else if k = 12 then G.doneErr m.b n
 else if k = 13 then pauseE n
 else 1
def doneW (m : Wo) (n : Int) : Wo := { m with b := G.doneLst m.b n, f := G.podDoneLst m.f (G.doneNum m.b n) }
def doW (m : Wo) (k a n : Int) : Wo :=
 if k = 1 then (if tickE m n = 0 then ticksN n.toNat m else m)
 else if k = 2 then { m with t := makeLst m.t a n }
 else if k = 3 then { m with t := takeLst m.t a n }
 else if k = 4 then { m with q := G.putLst m.q m.ql n, ql := G.putLast m.q m.ql n }
 else if k = 5 then { m with q := G.leaseLst m.q m.now n }
 else if k = 6 then { m with q := G.ackLst m.q m.now n }
 else if k = 7 then (if failE m a n = 0 then { m with fails := m.fails.set a.toNat (n == 1) } else m)
 else if k = 8 then { m with f := G.turnLst m.f n 1 2 }
 else if k = 9 then (if G.turnErr m.f n 2 = 0 then ({ m with f := G.turnLst m.f n 2 3 } : Wo).on else m)
 else if k = 10 then (if G.crashErr m.f n = 0 then ({ m with f := G.crashLst m.f n, b := G.lostLst m.b n } : Wo).on else m)
 else if k = 11 then (if G.askErr m.b m.now a n = 0 then ({ m with b := G.askLst m.b m.now a n } : Wo).on else m)
 else if k = 12 then (if G.doneErr m.b n = 0 then (doneW m n).on else m)
 else if k = 13 then { m with l := pauseL m.l n }
 else m
def newWo (p : Pln) (parts most sec : Int) : Wo := ⟨newLp p, List.replicate parts.toNat (0, 0), [], 0, [], 0, min (max most 1) 100, [], List.replicate p.trigs.length false, sec, 0, 0⟩
def newE (p : Pln) (parts sec : Int) : Int := if planE p ≠ 0 then planE p else if parts < 1 ∨ 20 < parts then 1 else if sec < -10000000000 ∨ 10000000000 < sec then 1 else 0
structure Wo.ok (m : Wo) (j : Nat) : Prop where
 lp : m.l.ok j
 last : m.l.last ≤ m.now
 tp : Small m.t
 tn : m.t.length ≤ 20
 qn : m.q.length ≤ 200
 ql0 : 0 ≤ m.ql
 ql1 : m.ql ≤ 200 * j
 crew : G.Crewed m.f m.fl m.most
 live : G.liveN m.f ≤ 50
 fn : m.f.length ≤ 50 * j
 fl1 : m.fl ≤ 50 * j
 most0 : 1 ≤ m.most
 most1 : m.most ≤ 100
 fair : G.Fair m.b
 bn : m.b.length ≤ 200
 fails : m.fails.length = m.l.p.trigs.length
 now0 : 0 ≤ m.now
 now1 : m.now ≤ 1099511627776
 sec0 : -10000000000 ≤ m.sec
 sec1 : m.sec ≤ 10000000000
open Go.RowKit
structure LopAt (T TS TM : TypeId) (S1 S2 : Nat → Prop) (w : World) (g gs : Nat) (vt vf vw vm : Value) (l : Lp) : Prop where
 head : G.At w g T #[.string l.p.name, .int .i64 l.p.mn, .int .i64 l.p.mx, .int .i64 l.p.poll, .int .i64 l.p.cool, .int .i64 l.p.tol, .int .i64 l.p.back, .int .i64 l.p.after, .int .i64 l.p.shift, .int .i64 l.p.up.win, .int .i64 l.p.up.pods, .int .i64 l.p.up.pct, .int .i64 l.p.up.per, .int .i64 l.p.down.win, .int .i64 l.p.down.pods, .int .i64 l.p.down.pct, .int .i64 l.p.down.per, vt, .pointer (some ⟨gs, 0, none⟩), vf, .bool l.looked, .int .i64 l.last, .int .i64 l.needed, .int .i64 l.pause]
 trg : G.OwnRow S1 w 171 17 vt l.p.trigs.length (l.p.trigs.flatMap Trg.enc)
 fls : G.OwnRow S1 w 3 1 vf l.fails.length (l.fails.map (Value.int .i64))
 st : StbAt TS TM S2 w gs l.s vw vm
 own : S1 g
 dis : ∀ b, S1 b → ¬ S2 b
 lim : ∀ b, S1 b → b < w.heap.size
section
variable {T TS TM : TypeId} {S1 S2 C : Nat → Prop} {w w' : World} {g gs : Nat} {vt vf vw vm : Value} {l : Lp}
theorem LopAt.chg (h : LopAt T TS TM S1 S2 w g gs vt vf vw vm l) (hc : G.Chg C w w') (h1 : ∀ b, S1 b → ¬ C b) (h2 : ∀ b, S2 b → ¬ C b) : LopAt T TS TM S1 S2 w' g gs vt vf vw vm l :=
 ⟨h.head.chg hc (h1 g h.own), h.trg.chg hc h1, h.fls.chg hc h1, h.st.chg hc h2, h.own, h.dis, fun b hb => Nat.lt_of_lt_of_le (h.lim b hb) hc.size⟩
theorem LopAt.below (h : LopAt T TS TM S1 S2 w g gs vt vf vw vm l) (hb : Below w.heap.size w w') : LopAt T TS TM S1 S2 w' g gs vt vf vw vm l :=
 h.chg (C := fun _ => False) (G.Chg.of_below hb (Nat.le_refl _)) (fun _ _ h => h) (fun _ _ h => h)
theorem LopAt.alloc (h : LopAt T TS TM S1 S2 w g gs vt vf vw vm l) (o : Obj) : LopAt T TS TM S1 S2 (w.alloc o) g gs vt vf vw vm l := h.chg (C := fun _ => False) ((G.Chg.refl _ w).alloc o) (fun _ _ h => h) (fun _ _ h => h)
theorem LopAt.drew (h : LopAt T TS TM S1 S2 w g gs vt vf vw vm l) : LopAt T TS TM S1 S2 w.drew g gs vt vf vw vm l := h.chg (C := fun _ => False) ((G.Chg.refl _ w).drew) (fun _ _ h => h) (fun _ _ h => h)
end
theorem lopLow (g : Nat) (l : Lp) (T : TypeId) (gs : Nat) (vt vf : Value) (now have0 : Int) (b : Bool) (w : World) (h : G.At w g T #[.string l.p.name, .int .i64 l.p.mn, .int .i64 l.p.mx, .int .i64 l.p.poll, .int .i64 l.p.cool, .int .i64 l.p.tol, .int .i64 l.p.back, .int .i64 l.p.after, .int .i64 l.p.shift, .int .i64 l.p.up.win, .int .i64 l.p.up.pods, .int .i64 l.p.up.pct, .int .i64 l.p.up.per, .int .i64 l.p.down.win, .int .i64 l.p.down.pods, .int .i64 l.p.down.pct, .int .i64 l.p.down.per, vt, .pointer (some ⟨gs, 0, none⟩), vf, .bool l.looked, .int .i64 l.last, .int .i64 l.needed, .int .i64 l.pause]) (n0 : 0 ≤ now) (n1 : now ≤ 1099511627776) (c0 : 0 ≤ l.p.cool) (c1 : l.p.cool ≤ 1000000) :
  Calls Tryz.prog 181 #[.pointer (some ⟨g, 0, none⟩), .int .i64 now, .int .i64 have0, .bool b] w fun e w' => e = .returned (.int .i64 (lowOf l.p l.needed now have0 b)) ∧ Below w.heap.size w w' := by
 have x1 := h.here (i := 1) rfl
 have x4 := h.here (i := 4) rfl
 have x22 := h.here (i := 22) rfl
 have q1 : IntKind.i64.wrap (now - l.p.cool) = now - l.p.cool := IntWalk.i64_in _ (by omega)
 have HV := J (show lowOf l.p l.needed now have0 b = if b then max l.p.mn 1 else if now - l.p.cool < l.needed then max l.p.mn (min have0 1) else l.p.mn from rfl)
 have HB := J (fun n => below_drewN (Below.refl w.heap.size w) n)
 have HBr := J (Below.refl w.heap.size w)
 generalize lowOf l.p l.needed now have0 b = R at HV ⊢
 generalize l.p.mn = mn at x1 HV
 generalize l.p.cool = cool at x4 HV q1 c0 c1
 generalize l.needed = need at x22 HV
 clear h
 cases b
 case true =>
  obtain ⟨m, hm⟩ : ∃ m, max mn 1 = m := ⟨_, rfl⟩
  have E1 : (if mn < 1 then 1 else mn) = m := by rw [← hm]; split <;> omega
  have HF := J (show R = m by rw [HV.u, ← hm]; rfl)
  clear hm
  go_enter Tryz.func181, Tryz.ntmps181
  go_wp2_with fail
  go_ret
  exact ⟨by rw [HF.u] <;> rfl, HBr.u⟩
 have HV2 := J (show R = if now - cool < need then max mn (min have0 1) else mn from HV.u)
 by_cases ht : now - cool < need
 ·have HF := J (show R = max mn (min have0 1) by rw [HV2.u, if_pos ht])
  go_enter Tryz.func181, Tryz.ntmps181
  go_wp2_with fail
  go_quiet (fail)
  go_wp2_with fail
  all_goals
   go_ret
   exact ⟨ret_int (by rw [HF.u]; omega), HB.u _⟩
 have HF := J (show R = mn by rw [HV2.u, if_neg ht])
 have ht2 : need ≤ now - cool := by omega
 clear ht
 go_enter Tryz.func181, Tryz.ntmps181
 go_wp2_with fail
 go_quiet (fail)
 go_wp2_with fail
 go_ret
 exact ⟨by rw [HF.u] <;> rfl, HB.u _⟩
theorem lopDue (T : TypeId) (g gs : Nat) (vt vf : Value) (l : Lp) (now : Int) (w : World) (h : G.At w g T #[.string l.p.name, .int .i64 l.p.mn, .int .i64 l.p.mx, .int .i64 l.p.poll, .int .i64 l.p.cool, .int .i64 l.p.tol, .int .i64 l.p.back, .int .i64 l.p.after, .int .i64 l.p.shift, .int .i64 l.p.up.win, .int .i64 l.p.up.pods, .int .i64 l.p.up.pct, .int .i64 l.p.up.per, .int .i64 l.p.down.win, .int .i64 l.p.down.pods, .int .i64 l.p.down.pct, .int .i64 l.p.down.per, vt, .pointer (some ⟨gs, 0, none⟩), vf, .bool l.looked, .int .i64 l.last, .int .i64 l.needed, .int .i64 l.pause]) (n0 : -9223372036854775808 ≤ now) (n1 : now ≤ 9223372036854775807) (l0 : 0 ≤ l.last) (l1 : l.last ≤ 1099511627776) :
  Calls Tryz.prog 128 #[.pointer (some ⟨g, 0, none⟩), .int .i64 now] w fun e w' => e = .returned (.bool (dueB l now)) ∧ Below w.heap.size w w' := by
 have x3 := h.here (i := 3) rfl
 have x20 := h.here (i := 20) rfl
 have x21 := h.here (i := 21) rfl
 have HV := J (show dueB l now = (!l.looked || (decide (l.last ≤ now) && decide (l.p.poll ≤ now - l.last))) from rfl)
 have HB := J (fun n => below_drewN (Below.refl w.heap.size w) n)
 generalize dueB l now = R at HV ⊢
 generalize l.looked = lk at x20 HV
 generalize l.last = la at x21 HV l0 l1
 generalize l.p.poll = po at x3 HV
 clear h
 cases lk
 case false =>
  have d0 : (!false) = true := rfl
  go_enter Tryz.func128, Tryz.ntmps128
  go_wp2_with fail
  go_quiet (fail)
  go_wp2_with fail
  go_ret
  exact ⟨by rw [HV.u] <;> rfl, HB.u _⟩
 by_cases h1 : la ≤ now
 ·have q1 : IntKind.i64.wrap (now - la) = now - la := IntWalk.i64_in _ (by omega)
  have HF := J (show R = decide (po ≤ now - la) by rw [HV.u, decide_eq_true h1]; rfl)
  clear HV
  go_enter Tryz.func128, Tryz.ntmps128
  go_wp2_with fail
  go_quiet (fail)
  go_wp2_with fail
  go_ret
  exact ⟨by rw [HF.u] <;> rfl, HB.u _⟩
 have h2 : now < la := by omega
 have HF := J (show R = false by rw [HV.u, decide_eq_false h1]; rfl)
 have d1 : decide (la ≤ now) = false := decide_eq_false h1
 clear HV h1
 go_enter Tryz.func128, Tryz.ntmps128
 go_wp2_with fail
 go_quiet (fail)
 go_wp2_with fail
 go_ret
 exact ⟨by rw [HF.u] <;> rfl, HB.u _⟩
open Go.RowKit
def lopCells (l : Lp) (gs : Nat) (vt vf : Value) : Array Value := #[.string l.p.name, .int .i64 l.p.mn, .int .i64 l.p.mx, .int .i64 l.p.poll, .int .i64 l.p.cool, .int .i64 l.p.tol, .int .i64 l.p.back, .int .i64 l.p.after, .int .i64 l.p.shift, .int .i64 l.p.up.win, .int .i64 l.p.up.pods, .int .i64 l.p.up.pct, .int .i64 l.p.up.per, .int .i64 l.p.down.win, .int .i64 l.p.down.pods, .int .i64 l.p.down.pct, .int .i64 l.p.down.per, vt, .pointer (some ⟨gs, 0, none⟩), vf, .bool l.looked, .int .i64 l.last, .int .i64 l.needed, .int .i64 l.pause]
section
variable {T TS TM : TypeId} {S1 S2 C : Nat → Prop} {w w' : World} {g gs : Nat} {vt vf vw vm : Value} {l : Lp}
theorem LopAt.put (h : LopAt T TS TM S1 S2 w g gs vt vf vw vm l) (hT1 : 171 ≠ T) (hT2 : 3 ≠ T) {l' : Lp} {i : Nat} {u : Value} (hp : l'.p.trigs = l.p.trigs) (hf : l'.fails = l.fails) (hs : l'.s = l.s)
  (hc : (lopCells l gs vt vf).setIfInBounds i u = lopCells l' gs vt vf) : LopAt T TS TM S1 S2 (w.setCell ⟨g, i, none⟩ u) g gs vt vf vw vm l' := by
 refine ⟨?_, ?_, ?_, ?_, h.own, h.dis, fun b hb => by rw [G.size_put]; exact h.lim b hb⟩
 ·have := G.At.put h.head i u
  show G.At _ g T (lopCells l' gs vt vf)
  rw [← hc]; exact this
 ·rw [hp]; exact h.trg.aside (h.trg.apartAt h.head hT1) u
 ·rw [hf]; exact h.fls.aside (h.fls.apartAt h.head hT2) u
 rw [hs]; exact h.st.chg ((G.Chg.refl (fun b => b = g) w).put (p := ⟨g, i, none⟩) (.inl rfl) u) (fun b hb e => h.dis g h.own (e ▸ hb))
theorem LopAt.fail (h : LopAt T TS TM S1 S2 w g gs vt vf vw vm l) (hT2 : 3 ≠ T) {k bf cf : Nat} {x : Int} (hv : vf = .slice (some ⟨bf, 0, none⟩) l.fails.length cf) (hk : k < l.fails.length) :
  LopAt T TS TM S1 S2 (w.setCell ⟨bf, k, none⟩ (.int .i64 x)) g gs vt vf vw vm { l with fails := l.fails.set k x } := by
 have hb : S1 bf := (h.fls.block bf (by rw [hv]; rfl)).1
 have hne : g ≠ bf := fun e => (h.fls.apartAt h.head hT2 bf (by rw [hv]; rfl)) e.symm
 have hbt : ∀ b, vt.ownBlock = some b → b ≠ bf := by
  intro b hb2 e
  subst e
  rcases h.trg.2 with ⟨rfl, _⟩ | ⟨b1, c1, rfl, _, _, _, r1⟩
  ·simp [Value.ownBlock] at hb2
  simp [Value.ownBlock] at hb2; subst hb2
  obtain ⟨b2, c2, e2, _, _, _, r2⟩ := h.fls.form (by omega)
  rw [hv] at e2; cases e2
  exact r1.apart r2 (by decide) rfl
 refine ⟨h.head.other hne _, h.trg.aside hbt _, ?_, h.st.chg ((G.Chg.refl (fun b => b = bf) w).put (p := ⟨bf, k, none⟩) (.inl rfl) _) (fun b hb2 e => h.dis bf hb (e ▸ hb2)), h.own, h.dis, fun b hb => by rw [G.size_put]; exact h.lim b hb⟩
 subst hv
 have := G.OwnRow.put (i := k) h.fls (by rw [List.length_map]; exact hk) (.int .i64 x)
 show G.OwnRow S1 _ _ 1 _ (l.fails.set k x).length ((l.fails.set k x).map (Value.int .i64))
 rw [List.length_set, List.map_set]
 exact this
theorem LopAt.up (h : LopAt T TS TM S1 S2 w g gs vt vf vw vm l) {w0 : World} (h0 : ∀ b, S1 b → b < w0.heap.size) : LopAt T TS TM S1 (G.Plus S2 w0 w) w g gs vt vf vw vm l :=
 ⟨h.head, h.trg, h.fls, h.st.up, h.own, fun b hb h2 => by
  rcases h2 with h2 | h2
  ·exact h.dis b hb h2
  have := h0 b hb; omega, h.lim⟩
end
def PausePost (T TS TM : TypeId) (S1 S2 : Nat → Prop) (w : World) (g gs : Nat) (vt vf vw vm : Value) (l : Lp) (n : Int) (e : Ending) (w' : World) : Prop :=
 e = .returned (.int .i64 (pauseE n)) ∧ LopAt T TS TM S1 S2 w' g gs vt vf vw vm (pauseL l n) ∧ G.Chg S1 w w'
theorem lopPause (S1 S2 : Nat → Prop) (g gs : Nat) (vt vf vw vm : Value) (l : Lp) (n : Int) (w : World) (h : LopAt 219 257 290 S1 S2 w g gs vt vf vw vm l) :
  Calls Tryz.prog 96 #[.pointer (some ⟨g, 0, none⟩), .int .i64 n] w (PausePost 219 257 290 S1 S2 w g gs vt vf vw vm l n) := by
 have x23 := h.head.here (i := 23) rfl
 have p23 := h.head.soft 23
 by_cases h1 : n < -1
 ·have HF := J (show PausePost 219 257 290 S1 S2 w g gs vt vf vw vm l n (.returned (.int .i64 1)) w from ⟨by unfold pauseE; rw [if_pos (.inl h1)], by unfold pauseL; rw [if_pos (.inl h1)]; exact h, G.Chg.refl _ _⟩)
  clear h
  go_enter Tryz.func96, Tryz.ntmps96
  go_wp2_with fail
  go_ret
  exact HF.u
 by_cases h2 : 50 < n
 ·have HF := J (show PausePost 219 257 290 S1 S2 w g gs vt vf vw vm l n (.returned (.int .i64 1)) w from ⟨by unfold pauseE; rw [if_pos (.inr h2)], by unfold pauseL; rw [if_pos (.inr h2)]; exact h, G.Chg.refl _ _⟩)
  clear h
  go_enter Tryz.func96, Tryz.ntmps96
  go_wp2_with fail
  go_ret
  exact HF.u
 have h3 : -1 ≤ n := by omega
 have h4 : n ≤ 50 := by omega
 have HF := J (fun w' (hw : w.setCell ⟨g, 23, none⟩ (.int .i64 n) = w') => (show PausePost 219 257 290 S1 S2 w g gs vt vf vw vm l n (.returned (.int .i64 0)) w' from hw ▸ ⟨by unfold pauseE; rw [if_neg (by omega)], by unfold pauseL; rw [if_neg (by omega)]; exact h.put (by decide) (by decide) rfl rfl rfl rfl, (G.Chg.refl _ _).put (.inl h.own) _⟩))
 clear h h1 h2
 go_enter Tryz.func96, Tryz.ntmps96
 go_wp2_with fail
 go_ret
 exact HF.u _ rfl
theorem lopClip (n low mx : Int) (bl bx g : Nat) (w : World) (hl : w.cell? ⟨bl, 0, none⟩ = some (.int .i64 low)) (hx : w.cell? ⟨bx, 0, none⟩ = some (.pointer (some ⟨g, 0, none⟩))) (hm : w.cell? ⟨g, 2, none⟩ = some (.int .i64 mx)) :
  Calls Tryz.prog 182 #[.int .i64 n, .pointer (some ⟨bl, 0, none⟩), .pointer (some ⟨bx, 0, none⟩)] w fun e w' => e = .returned (.int .i64 (clipOf low mx n)) ∧ Below w.heap.size w w' := by
 have HF := J (fun x (hx : x = min (max n low) mx) (w' : World) (hb : Below w.heap.size w w') => (⟨by rw [hx]; rfl, hb⟩ : (Ending.returned (.int .i64 x) = .returned (.int .i64 (clipOf low mx n)) ∧ Below w.heap.size w w')))
 go_enter Tryz.func182, Tryz.ntmps182
 go_wp2_with fail
 go_quiet (fail)
 all_goals
  go_wp2_with fail
  all_goals
   go_ret
   exact HF.u _ (by omega) _ (below_drewN (Below.refl _ _) _)
open Go.RowKit
theorem _root_.G.Chg.cell {S : Nat → Prop} {w w' : World} (h : G.Chg S w w') {b : Nat} (hb : b < w.heap.size) (hs : ¬ S b) (o : Nat) : w'.cell? ⟨b, o, none⟩ = w.cell? ⟨b, o, none⟩ := by
 unfold World.cell?
 show (match w'.heap[b]? with | _ => _) = (match w.heap[b]? with | _ => _)
 rw [h.block b hb hs]
structure RdV where
 failed : Bool
 A : Option Addr
 cap : Nat
 xs : List Int
def RdV.enc (r : RdV) : List Value := [.bool r.failed, .slice r.A r.xs.length r.cap]
theorem RdV.enc_length (r : RdV) : r.enc.length = 2 := rfl
def RdV.rd (r : RdV) : Rd := ⟨r.failed, r.xs⟩
def NumsOf (R : Nat → Prop) (w : World) (A : Option Addr) (xs : List Int) : Prop := 0 < xs.length → ∃ b off, A = some ⟨b, off, none⟩ ∧ R b ∧ b < w.heap.size ∧ ∀ i x, xs[i]? = some x → w.cell? ⟨b, off + i, none⟩ = some (.int .i64 x)
theorem NumsOf.in {R : Nat → Prop} {w : World} {A : Option Addr} {xs : List Int} (h : NumsOf R w A xs) : NumsIn w A xs := fun h0 => by
 obtain ⟨b, off, e, _, hlt, hc⟩ := h h0
 exact ⟨b, off, e, hlt, hc⟩
theorem NumsOf.chg {R C : Nat → Prop} {w w' : World} {A : Option Addr} {xs : List Int} (h : NumsOf R w A xs) (hc : G.Chg C w w') (hs : ∀ b, R b → ¬ C b) : NumsOf R w' A xs := fun h0 => by
 obtain ⟨b, off, e, hR, hlt, hx⟩ := h h0
 exact ⟨b, off, e, hR, Nat.lt_of_lt_of_le hlt hc.size, fun i x hi => (hc.cell hlt (hs b hR) _).trans (hx i x hi)⟩
structure RdsIn (R : Nat → Prop) (w : World) (v : Value) (rs : List RdV) : Prop where
 list : ∃ A cap, v = .slice A rs.length cap ∧ (0 < rs.length → ∃ b off, A = some ⟨b, off, none⟩ ∧ R b ∧ b < w.heap.size ∧ ∀ (i : Nat) (r : RdV) (j : Nat) (u : Value), rs[i]? = some r → r.enc[j]? = some u → w.cell? ⟨b, off + i * 2 + j, none⟩ = some u)
 nums : ∀ r ∈ rs, NumsOf R w r.A r.xs
 few : ∀ r ∈ rs, r.xs.length ≤ 9223372036854775807
theorem RdsIn.chg {R C : Nat → Prop} {w w' : World} {v : Value} {rs : List RdV} (h : RdsIn R w v rs) (hc : G.Chg C w w') (hs : ∀ b, R b → ¬ C b) : RdsIn R w' v rs := by
 refine ⟨?_, fun r hr => (h.nums r hr).chg hc hs, h.few⟩
 obtain ⟨A, cap, e, hA⟩ := h.list
 refine ⟨A, cap, e, fun h0 => ?_⟩
 obtain ⟨b, off, e1, hR, hlt, h2⟩ := hA h0
 exact ⟨b, off, e1, hR, Nat.lt_of_lt_of_le hlt hc.size, fun i r j u h3 h4 => (hc.cell hlt (hs b hR) _).trans (h2 i r j u h3 h4)⟩
theorem RdsIn.below {R : Nat → Prop} {w w' : World} {v : Value} {rs : List RdV} (h : RdsIn R w v rs) (hb : Below w.heap.size w w') : RdsIn R w' v rs := h.chg (C := fun _ => False) (G.Chg.of_below hb (Nat.le_refl _)) (fun _ _ h => h)
theorem RdsIn.at {R : Nat → Prop} {w : World} {A : Option Addr} {n cap : Nat} {rs : List RdV} (h : RdsIn R w (.slice A n cap) rs) {k : Nat} {r : RdV} (hk : rs[k]? = some r) :
  n = rs.length ∧ ∃ b off, A = some ⟨b, off, none⟩ ∧ w.cell? ⟨b, off + k * 2, none⟩ = some (.bool r.failed) ∧ w.cell? ⟨b, off + k * 2 + 1, none⟩ = some (.slice r.A r.xs.length r.cap) := by
 obtain ⟨A1, c1, e, hA⟩ := h.list
 cases e
 obtain ⟨b, off, e1, _, _, h2⟩ := hA (by have := G.get_lt hk; omega)
 exact ⟨rfl, b, off, e1, h2 k r 0 _ hk rfl, h2 k r 1 _ hk rfl⟩
theorem failsL_get : ∀ {ts : List Trg} {rs : List Rd} {fs : List Int} {k : Nat} {t : Trg} {r : Rd} {f : Int}, ts[k]? = some t → rs[k]? = some r → fs[k]? = some f → (failsL ts rs fs)[k]? = some (failOf t r f)
 | [], _, _, k, _, _, _, h, _, _ => by simp at h
 | _ :: _, [], _, k, _, _, _, _, h, _ => by simp at h
 | _ :: _, _ :: _, [], k, _, _, _, _, _, h => by simp at h
 | t :: ts, r :: rs, f :: fs, 0, _, _, _, h1, h2, h3 => by simp at h1 h2 h3; subst h1; subst h2; subst h3; rfl
 | t :: ts, r :: rs, f :: fs, k + 1, _, _, _, h1, h2, h3 => by
  show (failsL ts rs fs)[k]? = _
  exact failsL_get (by simpa using h1) (by simpa using h2) (by simpa using h3)
theorem failsL_length : ∀ {ts : List Trg} {rs : List Rd} {fs : List Int} {n : Nat}, ts.length = n → rs.length = n → fs.length = n → (failsL ts rs fs).length = n
 | [], _, _, n, h, _, _ => by simpa [failsL] using h
 | _ :: _, [], _, n, h, h2, _ => by simp at h h2; omega
 | _ :: _, _ :: _, [], n, h, _, h3 => by simp at h h3; omega
 | t :: ts, r :: rs, f :: fs, 0, h, _, _ => by simp at h
 | t :: ts, r :: rs, f :: fs, n + 1, h1, h2, h3 => by
  show (failsL ts rs fs).length + 1 = n + 1
  rw [failsL_length (n := n) (by simpa using h1) (by simpa using h2) (by simpa using h3)]
def mixed (F fs : List Int) (k : Nat) : List Int := F.take k ++ fs.drop k
theorem mixed_zero (F fs : List Int) : mixed F fs 0 = fs := by simp [mixed]
theorem mixed_all {F fs : List Int} {n : Nat} (h1 : F.length = n) (h2 : fs.length = n) : mixed F fs n = F := by
 unfold mixed; rw [List.take_of_length_le (by omega), List.drop_eq_nil_of_le (by omega), List.append_nil]
theorem mixed_get {F fs : List Int} {n k : Nat} (h1 : F.length = n) (hk : k < n) : (mixed F fs k)[k]? = fs[k]? := by
 unfold mixed
 rw [List.getElem?_append_right (by rw [List.length_take]; omega), List.length_take, show k - min k F.length = 0 by omega, List.getElem?_drop, Nat.add_zero]
theorem mixed_set {F fs : List Int} {n k : Nat} {x : Int} (h1 : F.length = n) (h2 : fs.length = n) (hk : k < n) (hx : F[k]? = some x) : (mixed F fs k).set k x = mixed F fs (k + 1) := by
 unfold mixed
 rw [List.set_append_right _ _ (by rw [List.length_take]; omega), List.length_take, show k - min k F.length = 0 by omega, List.take_add_one, hx]
 have e : fs.drop k = fs[k]'(by omega) :: fs.drop (k + 1) := List.drop_eq_getElem_cons (by omega)
 rw [e, List.set_cons_zero]
 simp
theorem failsL_bd {j : Nat} : ∀ {ts : List Trg} {rs : List Rd} {fs : List Int}, (∀ f ∈ fs, 0 ≤ f ∧ f ≤ j) → ∀ f ∈ failsL ts rs fs, 0 ≤ f ∧ f ≤ (j + 1 : Nat)
 | [], _, _, h, f, hf => by simp [failsL] at hf
 | _ :: _, [], _, h, f, hf => by simp [failsL] at hf
 | _ :: _, _ :: _, [], h, f, hf => by simp [failsL] at hf
 | t :: ts, r :: rs, f0 :: fs, h, f, hf => by
  rcases List.mem_cons.1 (show f ∈ failOf t r f0 :: failsL ts rs fs from hf) with rfl | hf
  ·have := h f0 (by simp)
   unfold failOf; split <;> omega
  exact failsL_bd (fun x hx => h x (by simp [hx])) f hf
def LookPost (T TS TM : TypeId) (S1 S2 : Nat → Prop) (w : World) (g gs : Nat) (vt vf : Value) (l : Lp) (now sec have0 : Int) (rs : List Rd) (busy : Bool) (e : Ending) (w' : World) : Prop :=
 e = .returned (.tuple #[.int .i64 (lookN l now sec have0 rs busy), .int .i64 (lookE l now sec have0 rs.length)]) ∧ (∃ vw vm, LopAt T TS TM S1 (G.Plus S2 w w') w' g gs vt vf vw vm (lookL l now sec have0 rs busy)) ∧ G.Chg (fun b => S1 b ∨ S2 b) w w'
theorem LopAt.plus {T TS TM : TypeId} {S1 S2 : Nat → Prop} {w w' : World} {g gs : Nat} {vt vf vw vm : Value} {l : Lp} (h : LopAt T TS TM S1 S2 w g gs vt vf vw vm l) (hb : Below w.heap.size w w') : LopAt T TS TM S1 (G.Plus S2 w w') w' g gs vt vf vw vm l :=
 (h.below hb).up h.lim
theorem look_no {T TS TM : TypeId} {S1 S2 : Nat → Prop} {w : World} {g gs : Nat} {vt vf vw vm : Value} {l : Lp} {now sec have0 : Int} {rs : List Rd} {busy : Bool} (h : LopAt T TS TM S1 S2 w g gs vt vf vw vm l) (hn : lookOk l now sec have0 rs.length = false) (w' : World) (hb : Below w.heap.size w w') :
  LookPost T TS TM S1 S2 w g gs vt vf l now sec have0 rs busy (.returned (.tuple #[.int .i64 0, .int .i64 1])) w' := by
 refine ⟨by unfold lookN lookE; rw [if_pos hn, if_pos hn], ⟨vw, vm, ?_⟩, G.Chg.of_below hb (Nat.le_refl _)⟩
 unfold lookL; rw [if_pos hn]
 exact h.plus hb
theorem lopLookNo (S1 S2 R : Nat → Prop) (g gs : Nat) (vt vf vw vm v : Value) (l : Lp) (now sec have0 : Int) (rs : List RdV) (busy : Bool) (w : World) (h : LopAt 219 257 290 S1 S2 w g gs vt vf vw vm l) (hr : RdsIn R w v rs)
  (hrl : rs.length ≤ 9223372036854775807) (hl : l.p.trigs.length ≤ 5) (hok : lookOk l now sec have0 rs.length = false) :
  Calls Tryz.prog 163 #[.pointer (some ⟨g, 0, none⟩), .int .i64 now, .int .i64 sec, .int .i64 have0, v, .bool busy] w (LookPost 219 257 290 S1 S2 w g gs vt vf l now sec have0 (rs.map RdV.rd) busy) := by
 have HF := J (look_no (busy := busy) h (rs := rs.map RdV.rd) (by rw [List.length_map]; exact hok))
 obtain ⟨A, cap, rfl, _⟩ := hr.list
 obtain ⟨At, capt, rfl, _, _, _⟩ := h.trg.slice
 have HX := J (G.At.made w 150 #[.pointer (some ⟨g, 0, none⟩)])
 have HH := J (h.head.alloc (.cells #[.pointer (some ⟨g, 0, none⟩)] 150))
 have HB := J ((Below.refl w.heap.size w).alloc (Nat.le_refl _) (.cells #[.pointer (some ⟨g, 0, none⟩)] 150))
 unfold lookOk at hok
 generalize rs.length = n at hrl hok HF ⊢
 generalize l.p.trigs.length = m at hl hok HF HH ⊢
 clear h hr
 go_enter Tryz.func163, Tryz.ntmps163
 go_upto_region 1 with fail
 generalize w.alloc (.cells #[.pointer (some ⟨g, 0, none⟩)] 150) = W at HX HH HB ⊢
 have xb := HX.u.here (i := 0) rfl
 have x21 := HH.u.here (i := 21) rfl
 have x17 := HH.u.here (i := 17) rfl
 by_cases a0 : now < l.last
 ·clear hok
  go_wp2_with fail
  go_ret2
  exact HF.u _ HB.u
 have b0 : l.last ≤ now := by omega
 clear a0
 by_cases a1 : 1099511627776 < now
 ·clear hok
  go_wp2_with fail
  go_ret2
  exact HF.u _ HB.u
 have b1 : now ≤ 1099511627776 := by omega
 clear a1
 by_cases a2 : sec < -100000000000
 ·clear hok
  go_wp2_with fail
  go_ret2
  exact HF.u _ HB.u
 have b2 : -100000000000 ≤ sec := by omega
 clear a2
 by_cases a3 : 100000000000 < sec
 ·clear hok
  go_wp2_with fail
  go_ret2
  exact HF.u _ HB.u
 have b3 : sec ≤ 100000000000 := by omega
 clear a3
 by_cases a4 : have0 < 0
 ·clear hok
  go_wp2_with fail
  go_ret2
  exact HF.u _ HB.u
 have b4 : 0 ≤ have0 := by omega
 clear a4
 by_cases a5 : 50 < have0
 ·clear hok
  go_wp2_with fail
  go_ret2
  exact HF.u _ HB.u
 have b5 : have0 ≤ 50 := by omega
 clear a5
 have hne : n ≠ m := by
  rintro rfl
  simp [b0, b1, b2, b3, b4, b5] at hok
 have hnb : ((n : Int) != (m : Int)) = true := by simp; omega
 clear hok
 go_wp2_with fail
 go_ret2
 exact HF.u _ HB.u
open Go.RowKit
theorem Stb.ok_up {s : G.Stb} {j : Nat} (h : s.ok j) : s.ok (j + 1) := ⟨h.up, h.down, h.last0, h.last1, h.wan, h.mov, h.wsort, h.msort, by have := h.wlen; omega, by have := h.mlen; omega⟩
theorem newLp_ok {p : Pln} (h : planE p = 0) (hf : ∀ t ∈ p.trigs, t.fits) : (newLp p).ok 0 :=
 ⟨h, hf, newStb_ok p.up p.down, by show (0 : Int) ≤ 0; omega, by show (0 : Int) ≤ 0; omega, by show (0 : Int) ≤ _; omega, by show (0 : Int) ≤ 0; omega, by show (0 : Int) ≤ 0; omega, by show (List.replicate _ _).length = _; simp [newLp], by
  intro f hf
  have := List.eq_of_mem_replicate (show f ∈ List.replicate p.trigs.length 0 from hf)
  subst this; omega, by show (-1 : Int) ≤ -1 ∧ (-1 : Int) ≤ 50; omega⟩
theorem pause_ok {l : Lp} {j : Nat} (h : l.ok j) (n : Int) : (pauseL l n).ok j := by
 unfold pauseL
 split
 ·exact h
 exact ⟨h.plan, h.fits, h.st, h.sl, h.last0, h.last1, h.need0, h.need1, h.many, h.fail, by show -1 ≤ n ∧ n ≤ 50; omega⟩
theorem lookOk_iff {l : Lp} {now sec have0 : Int} {n : Nat} : lookOk l now sec have0 n = true ↔ l.last ≤ now ∧ now ≤ 1099511627776 ∧ -100000000000 ≤ sec ∧ sec ≤ 100000000000 ∧ 0 ≤ have0 ∧ have0 ≤ 50 ∧ n = l.p.trigs.length := by
 unfold lookOk; simp only [Bool.and_eq_true, decide_eq_true_eq]
theorem Lp.ok_up {l : Lp} {j : Nat} (h : l.ok j) : l.ok (j + 1) :=
 ⟨h.plan, h.fits, Stb.ok_up h.st, h.sl, h.last0, h.last1, h.need0, h.need1, h.many, fun f hf => by have := h.fail f hf; omega, h.paus⟩
theorem seen_ok {l : Lp} {j : Nat} {now : Int} {rs : List Rd} (h : l.ok j) (h0 : l.last ≤ now) (h1 : now ≤ 1099511627776) (hn : rs.length = l.p.trigs.length) : (l.seen now rs).ok (j + 1) :=
 ⟨h.plan, h.fits, Stb.ok_up h.st, by show l.s.last ≤ now; have := h.sl; omega, by show 0 ≤ now; have := h.last0; omega, h1, h.need0, by show l.needed ≤ now; have := h.need1; omega, failsL_length rfl hn h.many, failsL_bd h.fail, h.paus⟩
theorem settleS_last {s : G.Stb} {now have0 want : Int} (h : s.last ≤ now) : (G.settleS s now have0 want).last ≤ now := by
 unfold G.settleS
 split
 ·split
  ·exact Int.le_refl _
  exact Int.le_refl _
 exact h
theorem look_ok {l : Lp} {j : Nat} {now sec have0 : Int} {rs : List Rd} {busy : Bool} (h : l.ok j) : (lookL l now sec have0 rs busy).ok (j + 1) := by
 unfold lookL
 cases hk : lookOk l now sec have0 rs.length
 ·rw [if_pos rfl]; exact Lp.ok_up h
 obtain ⟨h0, h1, _, _, _, _, hn⟩ := lookOk_iff.1 hk
 rw [if_neg (by simp)]
 have hs := seen_ok (rs := rs) h h0 h1 hn
 split
 ·exact hs
 generalize (l.seen now rs).wish now sec have0 rs busy = x
 have hst := settle_ok (now := now) (have0 := have0) (want := x) h.st
 have hsl := settleS_last (have0 := have0) (want := x) (show l.s.last ≤ now by have := h.sl; omega)
 have hn0 : 0 ≤ now := by have := h.last0; omega
 cases ((l.seen now rs).told sec have0 rs busy).2
 ·exact ⟨hs.plan, hs.fits, hst, hsl, hs.last0, hs.last1, hs.need0, hs.need1, hs.many, hs.fail, hs.paus⟩
 exact ⟨hs.plan, hs.fits, hst, hsl, hs.last0, hs.last1, hn0, Int.le_refl _, hs.many, hs.fail, hs.paus⟩
theorem marked_p (l : Lp) (now : Int) (b : Bool) : (l.marked now b).p = l.p := by cases b <;> rfl
theorem lookL_p (l : Lp) (now sec have0 : Int) (rs : List Rd) (busy : Bool) : (lookL l now sec have0 rs busy).p = l.p := by
 unfold lookL
 split
 ·rfl
 split
 ·rfl
 exact marked_p _ _ _
theorem pauseL_p (l : Lp) (n : Int) : (pauseL l n).p = l.p := by unfold pauseL; split <;> rfl
open Go.RowKit
theorem trg_info : (Tryz.prog.info? 171).map (fun i => (i.zero, i.size, i.bytes)) = some (some (.agg #[.int .i64 0, .int .i64 0, .int .i64 0, .int .u64 0, .int .u64 0, .int .u64 0, .int .u64 0, .int .u64 0, .bool false, .bool false, .int .u64 0, .int .u64 0, .int .u64 0, .int .u64 0, .int .u64 0, .bool false, .bool false]), 17, 120) := by kernel_rfl
theorem trg_one {l : List Trg} : ∀ u ∈ l.flatMap Trg.enc, u.oneCell' = true := by
 intro u hu
 obtain ⟨p, _, hp⟩ := List.mem_flatMap.1 hu
 simp only [Trg.enc, List.mem_cons, List.not_mem_nil, or_false] at hp
 rcases hp with h | h | h | h | h | h | h | h | h | h | h | h | h | h | h | h | h <;> subst h <;> rfl
theorem list_cells {α : Type} {enc : α → List Value} {k : Nat} (hk : ∀ a, (enc a).length = k) (h0 : 0 < k) {w : World} {b off n cap : Nat} {l : List α} (hl : 0 < l.length) (h : G.ListIn w k enc (.slice (some ⟨b, off, none⟩) n cap) l) : ∀ (j : Nat) (u : Value), (l.flatMap enc)[j]? = some u → w.cell? ⟨b, off + j, none⟩ = some u := by
 obtain ⟨A, c, e, hA⟩ := h
 obtain ⟨b', off', e1, _, h2⟩ := hA hl
 cases e
 cases e1
 intro j u hu
 have hj : j < l.length * k := by rw [← G.flat_length hk]; exact G.get_lt hu
 have hi : j / k < l.length := (Nat.div_lt_iff_lt_mul h0).2 hj
 obtain ⟨a, ha⟩ := G.get_some l hi
 have hm : j % k < (enc a).length := by rw [hk]; exact Nat.mod_lt _ h0
 obtain ⟨v, hv⟩ := G.get_some (enc a) hm
 have e2 := G.flat_get hk ha hv
 rw [show j / k * k + j % k = j from Nat.div_add_mod' j k, hu] at e2
 cases e2
 have := h2 (j / k) a (j % k) _ ha hv
 rwa [Nat.add_assoc, show j / k * k + j % k = j from Nat.div_add_mod' j k] at this
def TrgClone (w : World) (ts : List Trg) (e : Ending) (w' : World) : Prop := ∃ v', e = .returned v' ∧ G.OwnRow (fun b => w.heap.size ≤ b) w' 171 17 v' ts.length (ts.flatMap Trg.enc) ∧ Below w.heap.size w w'
theorem trgClone (w : World) (A : Option Addr) (cap : Nat) (ts : List Trg) (h : G.ListIn w 17 Trg.enc (.slice A ts.length cap) ts) (hn : ts.length ≤ 100000000) :
  Calls Tryz.prog 122 #[.slice A ts.length cap] w (TrgClone w ts) := by
 cases A with
 | none =>
  have hz : ts = [] := by
   rcases Nat.eq_zero_or_pos ts.length with h0 | h0
   ·exact List.length_eq_zero_iff.1 h0
   obtain ⟨A1, c1, e, hA⟩ := h
   cases e
   obtain ⟨_, _, e1, _⟩ := hA h0
   cases e1
  have HF := J (show TrgClone w ts (.returned (.slice none 0 0)) w from ⟨_, rfl, by rw [hz]; exact G.OwnRow.nil _ _ _ _, Below.refl _ _⟩)
  have hq := fun w => Lib.run_eql_slice_nil (P := Tryz.prog) w 99 171 none ts.length cap 0 0 Tryz.underlying99
  clear h hz
  go_enter Tryz.func122, Tryz.ntmps122
  go_wp2_with fail
  go_ret
  exact HF.u
 | some a =>
  have hc : ∀ (j : Nat) (u : Value), (ts.flatMap Trg.enc)[j]? = some u → w.cell? (a.add j) = some u ∧ (a.add j).block < w.heap.size := by
   intro j u hu
   have hj := G.get_lt hu
   rw [G.flat_length Trg.enc_length] at hj
   have h0 : 0 < ts.length := by
    rcases Nat.eq_zero_or_pos ts.length with h0 | h0
    ·rw [h0] at hj; omega
    exact h0
   obtain ⟨A1, c1, e, hA⟩ := id h
   cases e
   obtain ⟨b, off, e1, hlt, _⟩ := hA h0
   cases e1
   rw [Addr.add_lit]
   exact ⟨list_cells Trg.enc_length (by omega) h0 h j u hu, hlt⟩
  have hq := fun w => Lib.run_eql_slice_nil (P := Tryz.prog) w 99 171 (some a) ts.length cap 0 0 Tryz.underlying99
  obtain ⟨i0, hi0, hz0, hz1, hz2⟩ := info_parts trg_info
  have HC := J hc; have HL := J (G.flat_length Trg.enc_length ts); have H1 := J (trg_one (l := ts))
  have hown : (w.alloc (.cells #[] 171)).ownsRow w.heap.size 171 17 (.slice (some ⟨w.heap.size, 0, none⟩) 0 0) 0 [] := World.ownsRow_made w #[] 0 (Nat.le_refl _) (Nat.zero_le _) rfl
  have HO := J hown
  have hm3 := J (show 0 + ts.length ≤ maxLen by simp only [maxLen]; omega)
  have hm4 := J (show (0 + ts.length) * 120 ≤ 140737488355328 by omega)
  clear h hown hn hc
  go_enter Tryz.func122, Tryz.ntmps122
  go_wp2_with (at_builtin; refine wpList_append_own _ (by rfl) (.tmp 5) (.tmp 6) 99 (by rfl) w.heap.size 171 i0 (.agg #[.int .i64 0, .int .i64 0, .int .i64 0, .int .u64 0, .int .u64 0, .int .u64 0, .int .u64 0, .int .u64 0, .bool false, .bool false, .int .u64 0, .int .u64 0, .int .u64 0, .int .u64 0, .int .u64 0, .bool false, .bool false]) 17 120 Tryz.underlying99 hi0 hz0 hz1 hz2 rfl (by decide) _ _ _ rfl HO.u a ts.length cap (ts.flatMap Trg.enc) rfl HL.u ?c1 H1.u hm3.u hm4.u ?c5 ?_)
  case c1 => exact fun j u hu => (((Below.refl w.heap.size w).alloc (Nat.le_refl _) (.cells #[] 171)).cell (p := a.add j) (HC.u j u hu).2).trans (HC.u j u hu).1
  case c5 => simp
  intro v' w1 hown1 hg1 _
  have HF := J (show TrgClone w ts (.returned v') w1 from by
   refine ⟨v', rfl, ?_, (((Below.refl _ w).alloc (Nat.le_refl _) _)).grown hg1 (by simp) (fun k hk => by simp [Value.ownBlock] at hk; omega)⟩
   exact G.OwnRow.of_owns hown1 (G.own_ge hown1))
  clear hown1 hg1
  go_wp2_with fail
  go_ret
  exact HF.u
def NewLopPost (T TS TM : TypeId) (w : World) (p : Pln) (e : Ending) (w' : World) : Prop :=
 ∃ (g gs : Nat) (vt vf : Value) (S1 S2 : Nat → Prop), e = .returned (.tuple #[.pointer (some ⟨g, 0, none⟩), .int .i64 0]) ∧ LopAt T TS TM S1 S2 w' g gs vt vf (.slice none 0 0) (.slice none 0 0) (newLp p) ∧ (∀ b, S1 b → w.heap.size ≤ b) ∧ (∀ b, S2 b → w.heap.size ≤ b) ∧ Below w.heap.size w w'
theorem lop_made {T TS TM : TypeId} {w wb : World} {p : Pln} {vt vf : Value} {gs : Nat} {S2 : Nat → Prop} (hT1 : 171 ≠ T) (ht : G.OwnRow (fun b => w.heap.size ≤ b) wb 171 17 vt p.trigs.length (p.trigs.flatMap Trg.enc))
  (hf : G.OwnRow (fun b => w.heap.size ≤ b) wb 3 1 vf p.trigs.length ((List.replicate p.trigs.length 0).map (Value.int .i64))) (hs : StbAt TS TM S2 wb gs (G.newStb p.up p.down) (.slice none 0 0) (.slice none 0 0))
  (h2 : ∀ b, S2 b → w.heap.size ≤ b) (hvt : ∀ b, vt.ownBlock = some b → ¬ S2 b) (hvf : ∀ b, vf.ownBlock = some b → ¬ S2 b) (hb : Below w.heap.size w wb) :
  NewLopPost T TS TM w p (.returned (.tuple #[.pointer (some ⟨wb.heap.size, 0, none⟩), .int .i64 0])) (wb.alloc (.cells (lopCells (newLp p) gs vt vf) T)) := by
 refine ⟨_, gs, vt, vf, (fun b => b = wb.heap.size ∨ vt.ownBlock = some b ∨ vf.ownBlock = some b), S2, rfl, ⟨G.At.made _ _ _, ?_, ?_, hs.alloc _, .inl rfl, ?_, ?_⟩, ?_, h2, hb.alloc hb.size _⟩
 ·exact G.OwnRow.of_owns (ht.alloc _).owns fun b hb => .inr (.inl hb)
 ·show G.OwnRow _ _ _ 1 vf (List.replicate p.trigs.length 0).length ((List.replicate p.trigs.length 0).map (Value.int .i64))
  rw [List.length_replicate]
  exact G.OwnRow.of_owns (hf.alloc _).owns fun b hb => .inr (.inr hb)
 ·intro b hb hb2
  rcases hb with rfl | hb | hb
  ·exact Nat.lt_irrefl _ (hs.lim _ hb2)
  ·exact hvt b hb hb2
  exact hvf b hb hb2
 ·intro b hb
  simp only [World.size_alloc]
  rcases hb with rfl | hb | hb
  ·omega
  ·have := (ht.block b hb).2; omega
  have := (hf.block b hb).2; omega
 intro b hb3
 rcases hb3 with rfl | hb3 | hb3
 ·exact hb.size
 ·exact (ht.block b hb3).1
 exact (hf.block b hb3).1
theorem lopNewNo (p : Pln) (A : Option Addr) (cap : Nat) (w : World) (ht : G.ListIn w 17 Trg.enc (.slice A p.trigs.length cap) p.trigs) (hf : ∀ t ∈ p.trigs, t.fits) (hn : p.name.size ≤ 9223372036854775807) (hl : p.trigs.length ≤ 9223372036854775807) (hE : planE p ≠ 0) :
  Calls Tryz.prog 78 #[plnV p (.slice A p.trigs.length cap)] w fun e w' => e = .returned (.tuple #[.pointer none, .int .i64 (planE p)]) ∧ Below w.heap.size w w' := by
 obtain ⟨name, mn, mx, poll, cool, tol, back, after, shift, ⟨u0, u1, u2, u3⟩, ⟨d0, d1, d2, d3⟩, ts⟩ := p
 unfold plnV
 simp only at ht hf hn hl hE ⊢
 have HB := J ((Below.refl w.heap.size w).alloc (Nat.le_refl _) (.cells (plnC ⟨name, mn, mx, poll, cool, tol, back, after, shift, ⟨u0, u1, u2, u3⟩, ⟨d0, d1, d2, d3⟩, ts⟩ (.slice A ts.length cap)) 101))
 have HX := J (G.At.made w 101 (plnC ⟨name, mn, mx, poll, cool, tol, back, after, shift, ⟨u0, u1, u2, u3⟩, ⟨d0, d1, d2, d3⟩, ts⟩ (.slice A ts.length cap)))
 have HC := J (fun (W : World) (hb : Below w.heap.size w W) => planCheck name mn mx poll cool tol back after shift u0 u1 u2 u3 d0 d1 d2 d3 A cap ts W (ht.below hb (Nat.le_refl _)) hf hn hl)
 unfold plnC at HB HX
 have HE := J hE
 obtain ⟨E, hEE⟩ : ∃ E, planE ⟨name, mn, mx, poll, cool, tol, back, after, shift, ⟨u0, u1, u2, u3⟩, ⟨d0, d1, d2, d3⟩, ts⟩ = E := ⟨_, rfl⟩
 rw [hEE] at HC HE ⊢
 have hb1 : (E != 0) = true := by simpa using HE.u
 clear ht hf hn hl hE hEE
 go_enter Tryz.func78, Tryz.ntmps78
 go_upto_region 1 with fail
 simp only at HB HX
 have HCx := J (HC.u _ HB.u)
 generalize w.alloc (.cells #[.string name, .int .i64 mn, .int .i64 mx, .int .i64 poll, .int .i64 cool, .int .i64 tol, .int .i64 back, .int .i64 after, .int .i64 shift, .int .i64 u0, .int .i64 u1, .int .i64 u2, .int .i64 u3, .int .i64 d0, .int .i64 d1, .int .i64 d2, .int .i64 d3, .slice A ts.length cap] 101) = W at HB HX HCx ⊢
 clear HC
 go_wp2_with (refine wpList_load_row rfl 101 (.tmp 1) rfl w.heap.size rfl 101 _ (0, 0) _ HX.u Tryz.underlying101 rfl (by kernel_rfl) ?_)
 refine HCx.u.mono ?_
 rintro e w1 ⟨rfl, hb3⟩
 have HB3 := J (HB.u.trans (hb3.mono HB.u.size))
 clear hb3 HCx
 go_wp2_with fail
 go_ret2
 exact ⟨rfl, HB3.u⟩
end Go.Proofs.YtoidcbpcnikejaaGreatDoor
