/- Of the texts LopM, WldM, LopC, LopE, LopF, LopJ, WldN, WldO: what this claim reaches. -/
import Derived.Deep.RegionHeld3
import Derived.Test.YtidonhndeohdlaaGreatDoorTt11
import Derived.Test.YtidonhndeohdlaaGreatDoorTtNeedC
import Derived.Test.YtidonhndeohdlaaGreatDoorTtNeedD
import Derived.Test.YtidonhndeohdlaaGreatDoorTt02
import Derived.Test.YtidonhndeohdlaaGreatDoorTtPlnE
import Derived.Test.YtidonhndeohdlaaGreatDoorTt03
import Derived.Test.YtidonhndeohdlaaGreatDoorTtStbF
set_option linter.unusedVariables false
set_option linter.unusedSimpArgs false
namespace Go.Proofs.YtidonhndeohdlaaGreatDoor
open Go.RowKit
structure Rd where
  failed : Bool
  xs : List Int
structure Lp where
  p : Pln
  s : Tide.Stb
  fails : List Int
  looked : Bool
  last : Int
  needed : Int
  pause : Int
def failOf (t : Trg) (r : Rd) (f : Int) : Int := if r.failed && !(t.kind == 3) then f + 1 else 0
def failsL : List Trg → List Rd → List Int → List Int
  | t :: ts, r :: rs, f :: fs => failOf t r f :: failsL ts rs fs
  | _, _, _ => []
def needT (t : Trg) (sec shift : Int) (r : Rd) : Int × Bool × Int := needR t.a t.b t.kind t.target t.act sec shift r.failed (Tide.metN t.kind (Tide.spot r.xs) r.xs.length) ((Tide.metM t.kind (Tide.spot r.xs) r.xs.length : Nat) : Int)
def wantT (t : Trg) (now tol : Int) (r : Rd) : Int × Int := wantR now tol t.kind t.target r.failed (Tide.metN t.kind (Tide.spot r.xs) r.xs.length) (needT t 0 0 r).1
def oneT (p : Pln) (t : Trg) (f : Int) (r : Rd) (sec have0 : Int) : Int × Bool :=
  if 0 < f then (if 0 < p.after ∧ p.after ≤ f then p.back else have0, true)
  else (if t.kind = 3 then (needT t sec p.shift r).1 else (wantT t have0 p.tol r).1, (needT t sec p.shift r).2.1)
def allT (p : Pln) (sec have0 : Int) : List Trg → List Rd → List Int → Int × Bool → Int × Bool
  | t :: ts, r :: rs, f :: fs, (w, b) => allT p sec have0 ts rs fs (max w (oneT p t f r sec have0).1, b || (oneT p t f r sec have0).2)
  | _, _, _, x => x
def lookOk (l : Lp) (now sec have0 : Int) (n : Nat) : Bool := decide (l.last ≤ now) && (decide (now ≤ 1099511627776) && (decide (-100000000000 ≤ sec) && (decide (sec ≤ 100000000000) && (decide (0 ≤ have0) && (decide (have0 ≤ 50) && decide (n = l.p.trigs.length))))))
def lowOf (p : Pln) (needed now have0 : Int) (b : Bool) : Int := if b then max p.mn 1 else if now - p.cool < needed then max p.mn (min have0 1) else p.mn
def clipOf (low mx n : Int) : Int := min (max n low) mx
def Lp.seen (l : Lp) (now : Int) (rs : List Rd) : Lp := { l with looked := true, last := now, fails := failsL l.p.trigs rs l.fails }
def Lp.told (l : Lp) (sec have0 : Int) (rs : List Rd) (busy : Bool) : Int × Bool := allT l.p sec have0 l.p.trigs rs l.fails (0, busy)
def Lp.marked (l : Lp) (now : Int) (b : Bool) : Lp := if b then { l with needed := now } else l
def Lp.wish (l : Lp) (now sec have0 : Int) (rs : List Rd) (busy : Bool) : Int :=
  clipOf (lowOf l.p (l.marked now (l.told sec have0 rs busy).2).needed now have0 (l.told sec have0 rs busy).2) l.p.mx (l.told sec have0 rs busy).1
def lookN (l : Lp) (now sec have0 : Int) (rs : List Rd) (busy : Bool) : Int :=
  if lookOk l now sec have0 rs.length = false then 0
  else if 0 ≤ l.pause then l.pause
  else clipOf (lowOf l.p ((l.seen now rs).marked now ((l.seen now rs).told sec have0 rs busy).2).needed now have0 ((l.seen now rs).told sec have0 rs busy).2) l.p.mx (Tide.settleN l.s now have0 ((l.seen now rs).wish now sec have0 rs busy))
def lookE (l : Lp) (now sec have0 : Int) (n : Nat) : Int := if lookOk l now sec have0 n = false then 1 else 0
def lookL (l : Lp) (now sec have0 : Int) (rs : List Rd) (busy : Bool) : Lp :=
  if lookOk l now sec have0 rs.length = false then l
  else if 0 ≤ l.pause then l.seen now rs
  else { (l.seen now rs).marked now ((l.seen now rs).told sec have0 rs busy).2 with s := Tide.settleS l.s now have0 ((l.seen now rs).wish now sec have0 rs busy) }
def dueB (l : Lp) (now : Int) : Bool := !l.looked || (decide (l.last ≤ now) && decide (l.p.poll ≤ now - l.last))
def pauseE (n : Int) : Int := if n < -1 ∨ 50 < n then 1 else 0
def pauseL (l : Lp) (n : Int) : Lp := if n < -1 ∨ 50 < n then l else { l with pause := n }
structure Lp.ok (l : Lp) (j : Nat) : Prop where
  plan : planE l.p = 0
  fits : ∀ t ∈ l.p.trigs, t.fits
  st : l.s.ok j
  sl : l.s.last ≤ l.last
  last0 : 0 ≤ l.last
  last1 : l.last ≤ 1099511627776
  need0 : 0 ≤ l.needed
  need1 : l.needed ≤ l.last
  many : l.fails.length = l.p.trigs.length
  fail : ∀ f ∈ l.fails, 0 ≤ f ∧ f ≤ j
  paus : -1 ≤ l.pause ∧ l.pause ≤ 50
def newLp (p : Pln) : Lp := ⟨p, ⟨p.up.fix, p.down.fix, 0, [], []⟩, List.replicate p.trigs.length 0, false, 0, 0, -1⟩
open Go.RowKit
structure Wo where
  l : Lp
  t : List (Int × Int)
  q : List Tide.Msg
  ql : Int
  f : List Tide.Pod
  fl : Int
  most : Int
  b : List Tide.Req
  fails : List Bool
  sec : Int
  now : Int
  target : Int
def onGoes (most : Int) (b : List Tide.Req) (f : List Tide.Pod) : Bool := decide (0 < Tide.nextN b) && (Tide.giveErr f most == 0)
def onN (most : Int) : Nat → List Tide.Req × List Tide.Pod → List Tide.Req × List Tide.Pod
  | 0, x => x
  | k + 1, x => if onGoes most x.1 x.2 then onN most k (Tide.runLst x.1 (Tide.nextN x.1) (Tide.giveNum x.2 most), Tide.giveLst x.2 most) else x
def Wo.on (m : Wo) : Wo := { m with b := (onN m.most m.b.length (m.b, m.f)).1, f := (onN m.most m.b.length (m.b, m.f)).2 }
def isDepth (t : Trg) : Bool := t.kind == 2
def readOf (t : Trg) (failed : Bool) (tp : List (Int × Int)) (q : List Tide.Msg) (now : Int) : Rd := ⟨failed, if t.kind = 1 then lagsOf tp else if t.kind = 2 then [Tide.depthNum q now] else []⟩
def readsOf (tp : List (Int × Int)) (q : List Tide.Msg) (now : Int) : List Trg → List Bool → List Rd
  | t :: ts, b :: bs => readOf t b tp q now :: readsOf tp q now ts bs
  | _, _ => []
def qAfter (ts : List Trg) (q : List Tide.Msg) (now : Int) : List Tide.Msg := if ts.any isDepth then Tide.nowLst q now else q
def Wo.reads (m : Wo) : List Rd := readsOf m.t m.q m.now m.l.p.trigs m.fails
def Wo.busy (m : Wo) : Bool := decide (0 < Tide.countF (-1) 1 m.b + Tide.countF (-1) 2 m.b)
def Wo.told (m : Wo) : Int := lookN m.l m.now (min (m.sec + m.now) 100000000000) (Tide.liveN m.f) m.reads m.busy
def Wo.look (m : Wo) : Wo := { m with
  l := lookL m.l m.now (min (m.sec + m.now) 100000000000) (Tide.liveN m.f) m.reads m.busy
  q := qAfter m.l.p.trigs m.q m.now
  f := Tide.scaleLst m.f m.fl m.told
  fl := Tide.scaleLast m.f m.fl m.told
  target := m.told }
def Wo.late (m : Wo) : Wo := { m with now := m.now + 1, b := Tide.lateLst m.b (m.now + 1) }
def Wo.seen (m : Wo) : Wo := if dueB m.l m.now then m.look else m
def Wo.tick (m : Wo) : Wo := m.late.seen.on
def ticksN : Nat → Wo → Wo
  | 0, m => m
  | k + 1, m => (ticksN k m).tick
def tickE (m : Wo) (n : Int) : Int := if n < 1 ∨ 1000 < n ∨ 1099511627776 - m.now < n then 1 else 0
def failE (m : Wo) (i n : Int) : Int := if i < 0 ∨ (m.fails.length : Int) ≤ i then 4 else if n ≠ 0 ∧ n ≠ 1 then 1 else 0
def doE (m : Wo) (k a n : Int) : Int :=
  if k = 1 then tickE m n
  else if k = 2 then makeErr m.t a n
  else if k = 3 then takeErr m.t a n
  else if k = 4 then Tide.putErr m.q n
  else if k = 5 then Tide.leaseErr m.q m.now n
  else if k = 6 then Tide.ackErr m.q m.now n
  else if k = 7 then failE m a n
  else if k = 8 then Tide.turnErr m.f n 1
  else if k = 9 then Tide.turnErr m.f n 2
  else if k = 10 then Tide.crashErr m.f n
  else if k = 11 then Tide.askErr m.b m.now a n
  else if k = 12 then Tide.doneErr m.b n
  else if k = 13 then pauseE n
  else 1
def doneW (m : Wo) (n : Int) : Wo := { m with b := Tide.doneLst m.b n, f := Tide.podDoneLst m.f (Tide.doneNum m.b n) }
def doW (m : Wo) (k a n : Int) : Wo :=
  if k = 1 then (if tickE m n = 0 then ticksN n.toNat m else m)
  else if k = 2 then { m with t := makeLst m.t a n }
  else if k = 3 then { m with t := takeLst m.t a n }
  else if k = 4 then { m with q := Tide.putLst m.q m.ql n, ql := Tide.putLast m.q m.ql n }
  else if k = 5 then { m with q := Tide.leaseLst m.q m.now n }
  else if k = 6 then { m with q := Tide.ackLst m.q m.now n }
  else if k = 7 then (if failE m a n = 0 then { m with fails := m.fails.set a.toNat (n == 1) } else m)
  else if k = 8 then { m with f := Tide.turnLst m.f n 1 2 }
  else if k = 9 then (if Tide.turnErr m.f n 2 = 0 then ({ m with f := Tide.turnLst m.f n 2 3 } : Wo).on else m)
  else if k = 10 then (if Tide.crashErr m.f n = 0 then ({ m with f := Tide.crashLst m.f n, b := Tide.lostLst m.b n } : Wo).on else m)
  else if k = 11 then (if Tide.askErr m.b m.now a n = 0 then ({ m with b := Tide.askLst m.b m.now a n } : Wo).on else m)
  else if k = 12 then (if Tide.doneErr m.b n = 0 then (doneW m n).on else m)
  else if k = 13 then { m with l := pauseL m.l n }
  else m
def newWo (p : Pln) (parts most sec : Int) : Wo := ⟨newLp p, List.replicate parts.toNat (0, 0), [], 0, [], 0, min (max most 1) 100, [], List.replicate p.trigs.length false, sec, 0, 0⟩
def newE (p : Pln) (parts sec : Int) : Int := if planE p ≠ 0 then planE p else if parts < 1 ∨ 20 < parts then 1 else if sec < -10000000000 ∨ 10000000000 < sec then 1 else 0
structure Wo.ok (m : Wo) (j : Nat) : Prop where
  lp : m.l.ok j
  last : m.l.last ≤ m.now
  tp : Small m.t
  tn : m.t.length ≤ 20
  qn : m.q.length ≤ 200
  ql0 : 0 ≤ m.ql
  ql1 : m.ql ≤ 200 * j
  crew : Tide.Crewed m.f m.fl m.most
  live : Tide.liveN m.f ≤ 50
  fn : m.f.length ≤ 50 * j
  fl1 : m.fl ≤ 50 * j
  most0 : 1 ≤ m.most
  most1 : m.most ≤ 100
  fair : Tide.Fair m.b
  bn : m.b.length ≤ 200
  fails : m.fails.length = m.l.p.trigs.length
  now0 : 0 ≤ m.now
  now1 : m.now ≤ 1099511627776
  sec0 : -10000000000 ≤ m.sec
  sec1 : m.sec ≤ 10000000000
open Go.RowKit
structure LopAt (T TS TM : TypeId) (S1 S2 : Nat → Prop) (w : World) (g gs : Nat) (vt vf vw vm : Value) (l : Lp) : Prop where
  head : Tide.At w g T #[.string l.p.name, .int .i64 l.p.mn, .int .i64 l.p.mx, .int .i64 l.p.poll, .int .i64 l.p.cool, .int .i64 l.p.tol, .int .i64 l.p.back, .int .i64 l.p.after, .int .i64 l.p.shift, .int .i64 l.p.up.win, .int .i64 l.p.up.pods, .int .i64 l.p.up.pct, .int .i64 l.p.up.per, .int .i64 l.p.down.win, .int .i64 l.p.down.pods, .int .i64 l.p.down.pct, .int .i64 l.p.down.per, vt, .pointer (some ⟨gs, 0, none⟩), vf, .bool l.looked, .int .i64 l.last, .int .i64 l.needed, .int .i64 l.pause]
  trg : Tide.OwnRow S1 w 65 17 vt l.p.trigs.length (l.p.trigs.flatMap Trg.enc)
  fls : Tide.OwnRow S1 w 3 1 vf l.fails.length (l.fails.map (Value.int .i64))
  st : StbAt TS TM S2 w gs l.s vw vm
  own : S1 g
  dis : ∀ b, S1 b → ¬ S2 b
  lim : ∀ b, S1 b → b < w.heap.size
section
variable {T TS TM : TypeId} {S1 S2 C : Nat → Prop} {w w' : World} {g gs : Nat} {vt vf vw vm : Value} {l : Lp}
theorem LopAt.chg (h : LopAt T TS TM S1 S2 w g gs vt vf vw vm l) (hc : Tide.Chg C w w') (h1 : ∀ b, S1 b → ¬ C b) (h2 : ∀ b, S2 b → ¬ C b) : LopAt T TS TM S1 S2 w' g gs vt vf vw vm l :=
  ⟨h.head.chg hc (h1 g h.own), h.trg.chg hc h1, h.fls.chg hc h1, h.st.chg hc h2, h.own, h.dis, fun b hb => Nat.lt_of_lt_of_le (h.lim b hb) hc.size⟩
theorem LopAt.below (h : LopAt T TS TM S1 S2 w g gs vt vf vw vm l) (hb : Below w.heap.size w w') : LopAt T TS TM S1 S2 w' g gs vt vf vw vm l :=
  h.chg (C := fun _ => False) (Tide.Chg.of_below hb (Nat.le_refl _)) (fun _ _ h => h) (fun _ _ h => h)
theorem LopAt.alloc (h : LopAt T TS TM S1 S2 w g gs vt vf vw vm l) (o : Obj) : LopAt T TS TM S1 S2 (w.alloc o) g gs vt vf vw vm l := h.chg (C := fun _ => False) ((Tide.Chg.refl _ w).alloc o) (fun _ _ h => h) (fun _ _ h => h)
theorem LopAt.drew (h : LopAt T TS TM S1 S2 w g gs vt vf vw vm l) : LopAt T TS TM S1 S2 w.drew g gs vt vf vw vm l := h.chg (C := fun _ => False) ((Tide.Chg.refl _ w).drew) (fun _ _ h => h) (fun _ _ h => h)
end
set_option maxRecDepth 100000 in
set_option maxHeartbeats 3200000 in
theorem lopLow (g : Nat) (l : Lp) (T : TypeId) (gs : Nat) (vt vf : Value) (now have0 : Int) (b : Bool) (w : World) (h : Tide.At w g T #[.string l.p.name, .int .i64 l.p.mn, .int .i64 l.p.mx, .int .i64 l.p.poll, .int .i64 l.p.cool, .int .i64 l.p.tol, .int .i64 l.p.back, .int .i64 l.p.after, .int .i64 l.p.shift, .int .i64 l.p.up.win, .int .i64 l.p.up.pods, .int .i64 l.p.up.pct, .int .i64 l.p.up.per, .int .i64 l.p.down.win, .int .i64 l.p.down.pods, .int .i64 l.p.down.pct, .int .i64 l.p.down.per, vt, .pointer (some ⟨gs, 0, none⟩), vf, .bool l.looked, .int .i64 l.last, .int .i64 l.needed, .int .i64 l.pause]) (n0 : 0 ≤ now) (n1 : now ≤ 1099511627776) (c0 : 0 ≤ l.p.cool) (c1 : l.p.cool ≤ 1000000) :
    Calls Tryz.prog 118 #[.pointer (some ⟨g, 0, none⟩), .int .i64 now, .int .i64 have0, .bool b] w fun e w' => e = .returned (.int .i64 (lowOf l.p l.needed now have0 b)) ∧ Below w.heap.size w w' := by
  have x1 := h.here (i := 1) rfl
  have x4 := h.here (i := 4) rfl
  have x22 := h.here (i := 22) rfl
  have q1 : IntKind.i64.wrap (now - l.p.cool) = now - l.p.cool := IntWalk.i64_in _ (by omega)
  have HV := Lib.hid (show lowOf l.p l.needed now have0 b = if b then max l.p.mn 1 else if now - l.p.cool < l.needed then max l.p.mn (min have0 1) else l.p.mn from rfl)
  have HB := Lib.hid (fun n => below_drewN (Below.refl w.heap.size w) n)
  have HBr := Lib.hid (Below.refl w.heap.size w)
  generalize lowOf l.p l.needed now have0 b = R at HV ⊢
  generalize l.p.mn = mn at x1 HV
  generalize l.p.cool = cool at x4 HV q1 c0 c1
  generalize l.needed = need at x22 HV
  clear h
  cases b
  case true =>
    obtain ⟨m, hm⟩ : ∃ m, max mn 1 = m := ⟨_, rfl⟩
    have E1 : (if mn < 1 then 1 else mn) = m := by rw [← hm]; split <;> omega
    have HF := Lib.hid (show R = m by rw [HV.out, ← hm]; rfl)
    clear hm
    go_enter Tryz.func118, Tryz.ntmps118
    go_wp2_with fail
    go_ret
    exact ⟨by rw [HF.out] <;> rfl, HBr.out⟩
  case false =>
    have HV2 := Lib.hid (show R = if now - cool < need then max mn (min have0 1) else mn from HV.out)
    by_cases ht : now - cool < need
    · have HF := Lib.hid (show R = max mn (min have0 1) by rw [HV2.out, if_pos ht])
      go_enter Tryz.func118, Tryz.ntmps118
      go_wp2_with fail
      go_quiet (fail)
      go_wp2_with fail
      all_goals
        go_ret
        exact ⟨ret_int (by rw [HF.out]; omega), HB.out _⟩
    · have HF := Lib.hid (show R = mn by rw [HV2.out, if_neg ht])
      have ht2 : need ≤ now - cool := by omega
      clear ht
      go_enter Tryz.func118, Tryz.ntmps118
      go_wp2_with fail
      go_quiet (fail)
      go_wp2_with fail
      go_ret
      exact ⟨by rw [HF.out] <;> rfl, HB.out _⟩
set_option maxRecDepth 100000 in
set_option maxHeartbeats 3200000 in
theorem lopDue (T : TypeId) (g gs : Nat) (vt vf : Value) (l : Lp) (now : Int) (w : World) (h : Tide.At w g T #[.string l.p.name, .int .i64 l.p.mn, .int .i64 l.p.mx, .int .i64 l.p.poll, .int .i64 l.p.cool, .int .i64 l.p.tol, .int .i64 l.p.back, .int .i64 l.p.after, .int .i64 l.p.shift, .int .i64 l.p.up.win, .int .i64 l.p.up.pods, .int .i64 l.p.up.pct, .int .i64 l.p.up.per, .int .i64 l.p.down.win, .int .i64 l.p.down.pods, .int .i64 l.p.down.pct, .int .i64 l.p.down.per, vt, .pointer (some ⟨gs, 0, none⟩), vf, .bool l.looked, .int .i64 l.last, .int .i64 l.needed, .int .i64 l.pause]) (n0 : -9223372036854775808 ≤ now) (n1 : now ≤ 9223372036854775807) (l0 : 0 ≤ l.last) (l1 : l.last ≤ 1099511627776) :
    Calls Tryz.prog 62 #[.pointer (some ⟨g, 0, none⟩), .int .i64 now] w fun e w' => e = .returned (.bool (dueB l now)) ∧ Below w.heap.size w w' := by
  have x3 := h.here (i := 3) rfl
  have x20 := h.here (i := 20) rfl
  have x21 := h.here (i := 21) rfl
  have HV := Lib.hid (show dueB l now = (!l.looked || (decide (l.last ≤ now) && decide (l.p.poll ≤ now - l.last))) from rfl)
  have HB := Lib.hid (fun n => below_drewN (Below.refl w.heap.size w) n)
  generalize dueB l now = R at HV ⊢
  generalize l.looked = lk at x20 HV
  generalize l.last = la at x21 HV l0 l1
  generalize l.p.poll = po at x3 HV
  clear h
  cases lk
  case false =>
    have d0 : (!false) = true := rfl
    go_enter Tryz.func62, Tryz.ntmps62
    go_wp2_with fail
    go_quiet (fail)
    go_wp2_with fail
    go_ret
    exact ⟨by rw [HV.out] <;> rfl, HB.out _⟩
  case true =>
    by_cases h1 : la ≤ now
    · have q1 : IntKind.i64.wrap (now - la) = now - la := IntWalk.i64_in _ (by omega)
      have HF := Lib.hid (show R = decide (po ≤ now - la) by rw [HV.out, decide_eq_true h1]; rfl)
      clear HV
      go_enter Tryz.func62, Tryz.ntmps62
      go_wp2_with fail
      go_quiet (fail)
      go_wp2_with fail
      go_ret
      exact ⟨by rw [HF.out] <;> rfl, HB.out _⟩
    · have h2 : now < la := by omega
      have HF := Lib.hid (show R = false by rw [HV.out, decide_eq_false h1]; rfl)
      have d1 : decide (la ≤ now) = false := decide_eq_false h1
      clear HV h1
      go_enter Tryz.func62, Tryz.ntmps62
      go_wp2_with fail
      go_quiet (fail)
      go_wp2_with fail
      go_ret
      exact ⟨by rw [HF.out] <;> rfl, HB.out _⟩
open Go.RowKit
def lopCells (l : Lp) (gs : Nat) (vt vf : Value) : Array Value := #[.string l.p.name, .int .i64 l.p.mn, .int .i64 l.p.mx, .int .i64 l.p.poll, .int .i64 l.p.cool, .int .i64 l.p.tol, .int .i64 l.p.back, .int .i64 l.p.after, .int .i64 l.p.shift, .int .i64 l.p.up.win, .int .i64 l.p.up.pods, .int .i64 l.p.up.pct, .int .i64 l.p.up.per, .int .i64 l.p.down.win, .int .i64 l.p.down.pods, .int .i64 l.p.down.pct, .int .i64 l.p.down.per, vt, .pointer (some ⟨gs, 0, none⟩), vf, .bool l.looked, .int .i64 l.last, .int .i64 l.needed, .int .i64 l.pause]
section
variable {T TS TM : TypeId} {S1 S2 C : Nat → Prop} {w w' : World} {g gs : Nat} {vt vf vw vm : Value} {l : Lp}
theorem LopAt.put (h : LopAt T TS TM S1 S2 w g gs vt vf vw vm l) (hT1 : 65 ≠ T) (hT2 : 3 ≠ T) {l' : Lp} {i : Nat} {u : Value} (hp : l'.p.trigs = l.p.trigs) (hf : l'.fails = l.fails) (hs : l'.s = l.s)
    (hc : (lopCells l gs vt vf).setIfInBounds i u = lopCells l' gs vt vf) : LopAt T TS TM S1 S2 (w.setCell ⟨g, i, none⟩ u) g gs vt vf vw vm l' := by
  refine ⟨?_, ?_, ?_, ?_, h.own, h.dis, fun b hb => by rw [Tide.size_put]; exact h.lim b hb⟩
  · have := Tide.At.put h.head i u
    show Tide.At _ g T (lopCells l' gs vt vf)
    rw [← hc]; exact this
  · rw [hp]; exact h.trg.aside (h.trg.apartAt h.head hT1) u
  · rw [hf]; exact h.fls.aside (h.fls.apartAt h.head hT2) u
  · rw [hs]; exact h.st.chg ((Tide.Chg.refl (fun b => b = g) w).put (p := ⟨g, i, none⟩) (.inl rfl) u) (fun b hb e => h.dis g h.own (e ▸ hb))
theorem LopAt.fail (h : LopAt T TS TM S1 S2 w g gs vt vf vw vm l) (hT2 : 3 ≠ T) {k bf cf : Nat} {x : Int} (hv : vf = .slice (some ⟨bf, 0, none⟩) l.fails.length cf) (hk : k < l.fails.length) :
    LopAt T TS TM S1 S2 (w.setCell ⟨bf, k, none⟩ (.int .i64 x)) g gs vt vf vw vm { l with fails := l.fails.set k x } := by
  have hb : S1 bf := (h.fls.block bf (by rw [hv]; rfl)).1
  have hne : g ≠ bf := fun e => (h.fls.apartAt h.head hT2 bf (by rw [hv]; rfl)) e.symm
  have hbt : ∀ b, vt.ownBlock = some b → b ≠ bf := by
    intro b hb2 e
    subst e
    rcases h.trg.2 with ⟨rfl, _⟩ | ⟨b1, c1, rfl, _, _, _, r1⟩
    · simp [Value.ownBlock] at hb2
    · simp [Value.ownBlock] at hb2; subst hb2
      obtain ⟨b2, c2, e2, _, _, _, r2⟩ := h.fls.form (by omega)
      rw [hv] at e2; cases e2
      exact r1.apart r2 (by decide) rfl
  refine ⟨h.head.other hne _, h.trg.aside hbt _, ?_, h.st.chg ((Tide.Chg.refl (fun b => b = bf) w).put (p := ⟨bf, k, none⟩) (.inl rfl) _) (fun b hb2 e => h.dis bf hb (e ▸ hb2)), h.own, h.dis, fun b hb => by rw [Tide.size_put]; exact h.lim b hb⟩
  subst hv
  have := Tide.OwnRow.put (i := k) h.fls (by rw [List.length_map]; exact hk) (.int .i64 x)
  show Tide.OwnRow S1 _ _ 1 _ (l.fails.set k x).length ((l.fails.set k x).map (Value.int .i64))
  rw [List.length_set, List.map_set]
  exact this
theorem LopAt.up (h : LopAt T TS TM S1 S2 w g gs vt vf vw vm l) {w0 : World} (h0 : ∀ b, S1 b → b < w0.heap.size) : LopAt T TS TM S1 (Tide.Plus S2 w0 w) w g gs vt vf vw vm l :=
  ⟨h.head, h.trg, h.fls, h.st.up, h.own, fun b hb h2 => by
    rcases h2 with h2 | h2
    · exact h.dis b hb h2
    · have := h0 b hb; omega, h.lim⟩
end
def PausePost (T TS TM : TypeId) (S1 S2 : Nat → Prop) (w : World) (g gs : Nat) (vt vf vw vm : Value) (l : Lp) (n : Int) (e : Ending) (w' : World) : Prop :=
  e = .returned (.int .i64 (pauseE n)) ∧ LopAt T TS TM S1 S2 w' g gs vt vf vw vm (pauseL l n) ∧ Tide.Chg S1 w w'
set_option maxRecDepth 100000 in
set_option maxHeartbeats 1600000 in
theorem lopPause (S1 S2 : Nat → Prop) (g gs : Nat) (vt vf vw vm : Value) (l : Lp) (n : Int) (w : World) (h : LopAt 128 173 224 S1 S2 w g gs vt vf vw vm l) :
    Calls Tryz.prog 37 #[.pointer (some ⟨g, 0, none⟩), .int .i64 n] w (PausePost 128 173 224 S1 S2 w g gs vt vf vw vm l n) := by
  have x23 := h.head.here (i := 23) rfl
  have p23 := h.head.soft 23
  by_cases h1 : n < -1
  · have HF := Lib.hid (show PausePost 128 173 224 S1 S2 w g gs vt vf vw vm l n (.returned (.int .i64 1)) w from ⟨by unfold pauseE; rw [if_pos (.inl h1)], by unfold pauseL; rw [if_pos (.inl h1)]; exact h, Tide.Chg.refl _ _⟩)
    clear h
    go_enter Tryz.func37, Tryz.ntmps37
    go_wp2_with fail
    go_ret
    exact HF.out
  by_cases h2 : 50 < n
  · have HF := Lib.hid (show PausePost 128 173 224 S1 S2 w g gs vt vf vw vm l n (.returned (.int .i64 1)) w from ⟨by unfold pauseE; rw [if_pos (.inr h2)], by unfold pauseL; rw [if_pos (.inr h2)]; exact h, Tide.Chg.refl _ _⟩)
    clear h
    go_enter Tryz.func37, Tryz.ntmps37
    go_wp2_with fail
    go_ret
    exact HF.out
  · have h3 : -1 ≤ n := by omega
    have h4 : n ≤ 50 := by omega
    have HF := Lib.hid (fun w' (hw : w.setCell ⟨g, 23, none⟩ (.int .i64 n) = w') => (show PausePost 128 173 224 S1 S2 w g gs vt vf vw vm l n (.returned (.int .i64 0)) w' from hw ▸ ⟨by unfold pauseE; rw [if_neg (by omega)], by unfold pauseL; rw [if_neg (by omega)]; exact h.put (by decide) (by decide) rfl rfl rfl rfl, (Tide.Chg.refl _ _).put (.inl h.own) _⟩))
    clear h h1 h2
    go_enter Tryz.func37, Tryz.ntmps37
    go_wp2_with fail
    go_ret
    exact HF.out _ rfl
set_option maxRecDepth 100000 in
set_option maxHeartbeats 1600000 in
theorem lopClip (n low mx : Int) (bl bx g : Nat) (w : World) (hl : w.cell? ⟨bl, 0, none⟩ = some (.int .i64 low)) (hx : w.cell? ⟨bx, 0, none⟩ = some (.pointer (some ⟨g, 0, none⟩))) (hm : w.cell? ⟨g, 2, none⟩ = some (.int .i64 mx)) :
    Calls Tryz.prog 119 #[.int .i64 n, .pointer (some ⟨bl, 0, none⟩), .pointer (some ⟨bx, 0, none⟩)] w fun e w' => e = .returned (.int .i64 (clipOf low mx n)) ∧ Below w.heap.size w w' := by
  have HF := Lib.hid (fun x (hx : x = min (max n low) mx) (w' : World) (hb : Below w.heap.size w w') => (⟨by rw [hx]; rfl, hb⟩ : (Ending.returned (.int .i64 x) = .returned (.int .i64 (clipOf low mx n)) ∧ Below w.heap.size w w')))
  go_enter Tryz.func119, Tryz.ntmps119
  go_wp2_with fail
  go_quiet (fail)
  all_goals
    go_wp2_with fail
    all_goals
      go_ret
      exact HF.out _ (by omega) _ (below_drewN (Below.refl _ _) _)
open Go.RowKit
theorem _root_.Tide.Chg.cell {S : Nat → Prop} {w w' : World} (h : Tide.Chg S w w') {b : Nat} (hb : b < w.heap.size) (hs : ¬ S b) (o : Nat) : w'.cell? ⟨b, o, none⟩ = w.cell? ⟨b, o, none⟩ := by
  unfold World.cell?
  show (match w'.heap[b]? with | _ => _) = (match w.heap[b]? with | _ => _)
  rw [h.block b hb hs]
structure RdV where
  failed : Bool
  A : Option Addr
  cap : Nat
  xs : List Int
def RdV.enc (r : RdV) : List Value := [.bool r.failed, .slice r.A r.xs.length r.cap]
theorem RdV.enc_length (r : RdV) : r.enc.length = 2 := rfl
def RdV.rd (r : RdV) : Rd := ⟨r.failed, r.xs⟩
def NumsOf (R : Nat → Prop) (w : World) (A : Option Addr) (xs : List Int) : Prop := 0 < xs.length → ∃ b off, A = some ⟨b, off, none⟩ ∧ R b ∧ b < w.heap.size ∧ ∀ i x, xs[i]? = some x → w.cell? ⟨b, off + i, none⟩ = some (.int .i64 x)
theorem NumsOf.in {R : Nat → Prop} {w : World} {A : Option Addr} {xs : List Int} (h : NumsOf R w A xs) : NumsIn w A xs := fun h0 => by
  obtain ⟨b, off, e, _, hlt, hc⟩ := h h0
  exact ⟨b, off, e, hlt, hc⟩
theorem NumsOf.chg {R C : Nat → Prop} {w w' : World} {A : Option Addr} {xs : List Int} (h : NumsOf R w A xs) (hc : Tide.Chg C w w') (hs : ∀ b, R b → ¬ C b) : NumsOf R w' A xs := fun h0 => by
  obtain ⟨b, off, e, hR, hlt, hx⟩ := h h0
  exact ⟨b, off, e, hR, Nat.lt_of_lt_of_le hlt hc.size, fun i x hi => (hc.cell hlt (hs b hR) _).trans (hx i x hi)⟩
structure RdsIn (R : Nat → Prop) (w : World) (v : Value) (rs : List RdV) : Prop where
  list : ∃ A cap, v = .slice A rs.length cap ∧ (0 < rs.length → ∃ b off, A = some ⟨b, off, none⟩ ∧ R b ∧ b < w.heap.size ∧ ∀ (i : Nat) (r : RdV) (j : Nat) (u : Value), rs[i]? = some r → r.enc[j]? = some u → w.cell? ⟨b, off + i * 2 + j, none⟩ = some u)
  nums : ∀ r ∈ rs, NumsOf R w r.A r.xs
  few : ∀ r ∈ rs, r.xs.length ≤ 9223372036854775807
theorem RdsIn.chg {R C : Nat → Prop} {w w' : World} {v : Value} {rs : List RdV} (h : RdsIn R w v rs) (hc : Tide.Chg C w w') (hs : ∀ b, R b → ¬ C b) : RdsIn R w' v rs := by
  refine ⟨?_, fun r hr => (h.nums r hr).chg hc hs, h.few⟩
  obtain ⟨A, cap, e, hA⟩ := h.list
  refine ⟨A, cap, e, fun h0 => ?_⟩
  obtain ⟨b, off, e1, hR, hlt, h2⟩ := hA h0
  exact ⟨b, off, e1, hR, Nat.lt_of_lt_of_le hlt hc.size, fun i r j u h3 h4 => (hc.cell hlt (hs b hR) _).trans (h2 i r j u h3 h4)⟩
theorem RdsIn.below {R : Nat → Prop} {w w' : World} {v : Value} {rs : List RdV} (h : RdsIn R w v rs) (hb : Below w.heap.size w w') : RdsIn R w' v rs := h.chg (C := fun _ => False) (Tide.Chg.of_below hb (Nat.le_refl _)) (fun _ _ h => h)
theorem RdsIn.at {R : Nat → Prop} {w : World} {A : Option Addr} {n cap : Nat} {rs : List RdV} (h : RdsIn R w (.slice A n cap) rs) {k : Nat} {r : RdV} (hk : rs[k]? = some r) :
    n = rs.length ∧ ∃ b off, A = some ⟨b, off, none⟩ ∧ w.cell? ⟨b, off + k * 2, none⟩ = some (.bool r.failed) ∧ w.cell? ⟨b, off + k * 2 + 1, none⟩ = some (.slice r.A r.xs.length r.cap) := by
  obtain ⟨A1, c1, e, hA⟩ := h.list
  cases e
  obtain ⟨b, off, e1, _, _, h2⟩ := hA (by have := Tide.get_lt hk; omega)
  exact ⟨rfl, b, off, e1, h2 k r 0 _ hk rfl, h2 k r 1 _ hk rfl⟩
theorem failsL_get : ∀ {ts : List Trg} {rs : List Rd} {fs : List Int} {k : Nat} {t : Trg} {r : Rd} {f : Int}, ts[k]? = some t → rs[k]? = some r → fs[k]? = some f → (failsL ts rs fs)[k]? = some (failOf t r f)
  | [], _, _, k, _, _, _, h, _, _ => by simp at h
  | _ :: _, [], _, k, _, _, _, _, h, _ => by simp at h
  | _ :: _, _ :: _, [], k, _, _, _, _, _, h => by simp at h
  | t :: ts, r :: rs, f :: fs, 0, _, _, _, h1, h2, h3 => by simp at h1 h2 h3; subst h1; subst h2; subst h3; rfl
  | t :: ts, r :: rs, f :: fs, k + 1, _, _, _, h1, h2, h3 => by
    show (failsL ts rs fs)[k]? = _
    exact failsL_get (by simpa using h1) (by simpa using h2) (by simpa using h3)
theorem failsL_length : ∀ {ts : List Trg} {rs : List Rd} {fs : List Int} {n : Nat}, ts.length = n → rs.length = n → fs.length = n → (failsL ts rs fs).length = n
  | [], _, _, n, h, _, _ => by simpa [failsL] using h
  | _ :: _, [], _, n, h, h2, _ => by simp at h h2; omega
  | _ :: _, _ :: _, [], n, h, _, h3 => by simp at h h3; omega
  | t :: ts, r :: rs, f :: fs, 0, h, _, _ => by simp at h
  | t :: ts, r :: rs, f :: fs, n + 1, h1, h2, h3 => by
    show (failsL ts rs fs).length + 1 = n + 1
    rw [failsL_length (n := n) (by simpa using h1) (by simpa using h2) (by simpa using h3)]
def mixed (F fs : List Int) (k : Nat) : List Int := F.take k ++ fs.drop k
theorem mixed_zero (F fs : List Int) : mixed F fs 0 = fs := by simp [mixed]
theorem mixed_all {F fs : List Int} {n : Nat} (h1 : F.length = n) (h2 : fs.length = n) : mixed F fs n = F := by
  unfold mixed; rw [List.take_of_length_le (by omega), List.drop_eq_nil_of_le (by omega), List.append_nil]
theorem mixed_get {F fs : List Int} {n k : Nat} (h1 : F.length = n) (hk : k < n) : (mixed F fs k)[k]? = fs[k]? := by
  unfold mixed
  rw [List.getElem?_append_right (by rw [List.length_take]; omega), List.length_take, show k - min k F.length = 0 by omega, List.getElem?_drop, Nat.add_zero]
theorem mixed_set {F fs : List Int} {n k : Nat} {x : Int} (h1 : F.length = n) (h2 : fs.length = n) (hk : k < n) (hx : F[k]? = some x) : (mixed F fs k).set k x = mixed F fs (k + 1) := by
  unfold mixed
  rw [List.set_append_right _ _ (by rw [List.length_take]; omega), List.length_take, show k - min k F.length = 0 by omega, List.take_add_one, hx]
  have e : fs.drop k = fs[k]'(by omega) :: fs.drop (k + 1) := List.drop_eq_getElem_cons (by omega)
  rw [e, List.set_cons_zero]
  simp
theorem failsL_bd {j : Nat} : ∀ {ts : List Trg} {rs : List Rd} {fs : List Int}, (∀ f ∈ fs, 0 ≤ f ∧ f ≤ j) → ∀ f ∈ failsL ts rs fs, 0 ≤ f ∧ f ≤ (j + 1 : Nat)
  | [], _, _, h, f, hf => by simp [failsL] at hf
  | _ :: _, [], _, h, f, hf => by simp [failsL] at hf
  | _ :: _, _ :: _, [], h, f, hf => by simp [failsL] at hf
  | t :: ts, r :: rs, f0 :: fs, h, f, hf => by
    rcases List.mem_cons.1 (show f ∈ failOf t r f0 :: failsL ts rs fs from hf) with rfl | hf
    · have := h f0 (by simp)
      unfold failOf; split <;> omega
    · exact failsL_bd (fun x hx => h x (by simp [hx])) f hf
def LookPost (T TS TM : TypeId) (S1 S2 : Nat → Prop) (w : World) (g gs : Nat) (vt vf : Value) (l : Lp) (now sec have0 : Int) (rs : List Rd) (busy : Bool) (e : Ending) (w' : World) : Prop :=
  e = .returned (.tuple #[.int .i64 (lookN l now sec have0 rs busy), .int .i64 (lookE l now sec have0 rs.length)]) ∧ (∃ vw vm, LopAt T TS TM S1 (Tide.Plus S2 w w') w' g gs vt vf vw vm (lookL l now sec have0 rs busy)) ∧ Tide.Chg (fun b => S1 b ∨ S2 b) w w'
theorem LopAt.plus {T TS TM : TypeId} {S1 S2 : Nat → Prop} {w w' : World} {g gs : Nat} {vt vf vw vm : Value} {l : Lp} (h : LopAt T TS TM S1 S2 w g gs vt vf vw vm l) (hb : Below w.heap.size w w') : LopAt T TS TM S1 (Tide.Plus S2 w w') w' g gs vt vf vw vm l :=
  (h.below hb).up h.lim
theorem look_no {T TS TM : TypeId} {S1 S2 : Nat → Prop} {w : World} {g gs : Nat} {vt vf vw vm : Value} {l : Lp} {now sec have0 : Int} {rs : List Rd} {busy : Bool} (h : LopAt T TS TM S1 S2 w g gs vt vf vw vm l) (hn : lookOk l now sec have0 rs.length = false) (w' : World) (hb : Below w.heap.size w w') :
    LookPost T TS TM S1 S2 w g gs vt vf l now sec have0 rs busy (.returned (.tuple #[.int .i64 0, .int .i64 1])) w' := by
  refine ⟨by unfold lookN lookE; rw [if_pos hn, if_pos hn], ⟨vw, vm, ?_⟩, Tide.Chg.of_below hb (Nat.le_refl _)⟩
  unfold lookL; rw [if_pos hn]
  exact h.plus hb
set_option maxRecDepth 100000 in
set_option maxHeartbeats 3200000 in
theorem lopLookNo (S1 S2 R : Nat → Prop) (g gs : Nat) (vt vf vw vm v : Value) (l : Lp) (now sec have0 : Int) (rs : List RdV) (busy : Bool) (w : World) (h : LopAt 128 173 224 S1 S2 w g gs vt vf vw vm l) (hr : RdsIn R w v rs)
    (hrl : rs.length ≤ 9223372036854775807) (hl : l.p.trigs.length ≤ 5) (hok : lookOk l now sec have0 rs.length = false) :
    Calls Tryz.prog 93 #[.pointer (some ⟨g, 0, none⟩), .int .i64 now, .int .i64 sec, .int .i64 have0, v, .bool busy] w (LookPost 128 173 224 S1 S2 w g gs vt vf l now sec have0 (rs.map RdV.rd) busy) := by
  have HF := Lib.hid (look_no (busy := busy) h (rs := rs.map RdV.rd) (by rw [List.length_map]; exact hok))
  obtain ⟨A, cap, rfl, _⟩ := hr.list
  obtain ⟨At, capt, rfl, _, _, _⟩ := h.trg.slice
  have HX := Lib.hid (Tide.At.made w 73 #[.pointer (some ⟨g, 0, none⟩)])
  have HH := Lib.hid (h.head.alloc (.cells #[.pointer (some ⟨g, 0, none⟩)] 73))
  have HB := Lib.hid ((Below.refl w.heap.size w).alloc (Nat.le_refl _) (.cells #[.pointer (some ⟨g, 0, none⟩)] 73))
  unfold lookOk at hok
  generalize rs.length = n at hrl hok HF ⊢
  generalize l.p.trigs.length = m at hl hok HF HH ⊢
  clear h hr
  go_enter Tryz.func93, Tryz.ntmps93
  go_upto_region 1 with fail
  generalize w.alloc (.cells #[.pointer (some ⟨g, 0, none⟩)] 73) = W at HX HH HB ⊢
  have xb := HX.out.here (i := 0) rfl
  have x21 := HH.out.here (i := 21) rfl
  have x17 := HH.out.here (i := 17) rfl
  by_cases a0 : now < l.last
  · clear hok
    go_wp2_with fail
    go_ret2
    exact HF.out _ HB.out
  have b0 : l.last ≤ now := by omega
  clear a0
  by_cases a1 : 1099511627776 < now
  · clear hok
    go_wp2_with fail
    go_ret2
    exact HF.out _ HB.out
  have b1 : now ≤ 1099511627776 := by omega
  clear a1
  by_cases a2 : sec < -100000000000
  · clear hok
    go_wp2_with fail
    go_ret2
    exact HF.out _ HB.out
  have b2 : -100000000000 ≤ sec := by omega
  clear a2
  by_cases a3 : 100000000000 < sec
  · clear hok
    go_wp2_with fail
    go_ret2
    exact HF.out _ HB.out
  have b3 : sec ≤ 100000000000 := by omega
  clear a3
  by_cases a4 : have0 < 0
  · clear hok
    go_wp2_with fail
    go_ret2
    exact HF.out _ HB.out
  have b4 : 0 ≤ have0 := by omega
  clear a4
  by_cases a5 : 50 < have0
  · clear hok
    go_wp2_with fail
    go_ret2
    exact HF.out _ HB.out
  have b5 : have0 ≤ 50 := by omega
  clear a5
  have hne : n ≠ m := by
    rintro rfl
    simp [b0, b1, b2, b3, b4, b5] at hok
  have hnb : ((n : Int) != (m : Int)) = true := by simp; omega
  clear hok
  go_wp2_with fail
  go_ret2
  exact HF.out _ HB.out
open Go.RowKit
theorem Stb.ok_up {s : Tide.Stb} {j : Nat} (h : s.ok j) : s.ok (j + 1) := ⟨h.up, h.down, h.last0, h.last1, h.wan, h.mov, h.wsort, h.msort, by have := h.wlen; omega, by have := h.mlen; omega⟩
theorem newLp_ok {p : Pln} (h : planE p = 0) (hf : ∀ t ∈ p.trigs, t.fits) : (newLp p).ok 0 :=
  ⟨h, hf, newStb_ok p.up p.down, by show (0 : Int) ≤ 0; omega, by show (0 : Int) ≤ 0; omega, by show (0 : Int) ≤ _; omega, by show (0 : Int) ≤ 0; omega, by show (0 : Int) ≤ 0; omega, by show (List.replicate _ _).length = _; simp [newLp], by
    intro f hf
    have := List.eq_of_mem_replicate (show f ∈ List.replicate p.trigs.length 0 from hf)
    subst this; omega, by show (-1 : Int) ≤ -1 ∧ (-1 : Int) ≤ 50; omega⟩
theorem pause_ok {l : Lp} {j : Nat} (h : l.ok j) (n : Int) : (pauseL l n).ok j := by
  unfold pauseL
  split
  · exact h
  · exact ⟨h.plan, h.fits, h.st, h.sl, h.last0, h.last1, h.need0, h.need1, h.many, h.fail, by show -1 ≤ n ∧ n ≤ 50; omega⟩
theorem lookOk_iff {l : Lp} {now sec have0 : Int} {n : Nat} : lookOk l now sec have0 n = true ↔ l.last ≤ now ∧ now ≤ 1099511627776 ∧ -100000000000 ≤ sec ∧ sec ≤ 100000000000 ∧ 0 ≤ have0 ∧ have0 ≤ 50 ∧ n = l.p.trigs.length := by
  unfold lookOk; simp only [Bool.and_eq_true, decide_eq_true_eq]
theorem Lp.ok_up {l : Lp} {j : Nat} (h : l.ok j) : l.ok (j + 1) :=
  ⟨h.plan, h.fits, Stb.ok_up h.st, h.sl, h.last0, h.last1, h.need0, h.need1, h.many, fun f hf => by have := h.fail f hf; omega, h.paus⟩
theorem seen_ok {l : Lp} {j : Nat} {now : Int} {rs : List Rd} (h : l.ok j) (h0 : l.last ≤ now) (h1 : now ≤ 1099511627776) (hn : rs.length = l.p.trigs.length) : (l.seen now rs).ok (j + 1) :=
  ⟨h.plan, h.fits, Stb.ok_up h.st, by show l.s.last ≤ now; have := h.sl; omega, by show 0 ≤ now; have := h.last0; omega, h1, h.need0, by show l.needed ≤ now; have := h.need1; omega, failsL_length rfl hn h.many, failsL_bd h.fail, h.paus⟩
theorem settleS_last {s : Tide.Stb} {now have0 want : Int} (h : s.last ≤ now) : (Tide.settleS s now have0 want).last ≤ now := by
  unfold Tide.settleS
  split
  · split
    · exact Int.le_refl _
    · exact Int.le_refl _
  · exact h
theorem look_ok {l : Lp} {j : Nat} {now sec have0 : Int} {rs : List Rd} {busy : Bool} (h : l.ok j) : (lookL l now sec have0 rs busy).ok (j + 1) := by
  unfold lookL
  cases hk : lookOk l now sec have0 rs.length
  · rw [if_pos rfl]; exact Lp.ok_up h
  · obtain ⟨h0, h1, _, _, _, _, hn⟩ := lookOk_iff.1 hk
    rw [if_neg (by simp)]
    have hs := seen_ok (rs := rs) h h0 h1 hn
    split
    · exact hs
    · generalize (l.seen now rs).wish now sec have0 rs busy = x
      have hst := settle_ok (now := now) (have0 := have0) (want := x) h.st
      have hsl := settleS_last (have0 := have0) (want := x) (show l.s.last ≤ now by have := h.sl; omega)
      have hn0 : 0 ≤ now := by have := h.last0; omega
      cases ((l.seen now rs).told sec have0 rs busy).2
      · exact ⟨hs.plan, hs.fits, hst, hsl, hs.last0, hs.last1, hs.need0, hs.need1, hs.many, hs.fail, hs.paus⟩
      · exact ⟨hs.plan, hs.fits, hst, hsl, hs.last0, hs.last1, hn0, Int.le_refl _, hs.many, hs.fail, hs.paus⟩
theorem marked_p (l : Lp) (now : Int) (b : Bool) : (l.marked now b).p = l.p := by cases b <;> rfl
theorem lookL_p (l : Lp) (now sec have0 : Int) (rs : List Rd) (busy : Bool) : (lookL l now sec have0 rs busy).p = l.p := by
  unfold lookL
  split
  · rfl
  · split
    · rfl
    · exact marked_p _ _ _
theorem pauseL_p (l : Lp) (n : Int) : (pauseL l n).p = l.p := by unfold pauseL; split <;> rfl
end Go.Proofs.YtidonhndeohdlaaGreatDoor
namespace Tide
theorem next_pos {l : List Req} (hn : Numbered l) (h : 0 < nextN l) : ∃ (j : Nat) (r : Req), l[j]? = some r ∧ nextN l = (j : Int) + 1 ∧ r.fate = 1 ∧ countF r.source 2 l = 0 ∧ firstN l r.source = nextN l := by
  have hb := best_inv l 6
  have e : (List.range 6).foldl (bestStep l) 0 = nextN l := rfl
  rw [e] at hb
  rcases hb with ⟨h1, _⟩ | ⟨_, ⟨s, _, h2⟩, _⟩
  · omega
  · obtain ⟨j, r, e1, e2, e3, e4⟩ := firstN_pos hn (s := s) (by omega)
    unfold freeF at e3
    rw [Bool.and_eq_true] at e3
    exact ⟨j, r, e1, by omega, by simpa using e3.1, by simpa using e3.2, by rw [e4]; omega⟩
theorem reqAt_is {l : List Req} {j : Nat} {r : Req} (h : l[j]? = some r) : reqAt l ((j : Int) + 1) = some r := by
  unfold reqAt; rw [if_pos (by omega), show ((j : Int) + 1 - 1).toNat = j by omega]; exact h
theorem run_next {l : List Req} (hn : Numbered l) (h : 0 < nextN l) (pod : Int) : ∃ (j : Nat) (r : Req), l[j]? = some r ∧ nextN l = (j : Int) + 1 ∧ r.fate = 1 ∧ countF r.source 2 l = 0 ∧ firstN l r.source = nextN l ∧ runErr l (nextN l) = 0 ∧ runLst l (nextN l) pod = l.set j { r with fate := 2, pod := pod } := by
  obtain ⟨j, r, h1, h2, h3, h4, h5⟩ := next_pos hn h
  refine ⟨j, r, h1, h2, h3, h4, h5, ?_, ?_⟩
  · unfold runErr; rw [h2, reqAt_is h1]; simp only; rw [if_pos (by omega)]
  · unfold runLst; rw [h2, reqAt_is h1]; simp only; rw [if_pos (by omega), show ((j : Int) + 1 - 1).toNat = j by omega]
theorem tame_num {l l' : List Req} (h : Numbered l) (t : Tame l l') : Numbered l' := fun k r' hk => by
  obtain ⟨r, h1, h2, h3, _, _⟩ := t.2 k r' hk
  rw [h2, h3]; exact h k r h1
def waitN (l : List Req) : Nat := l.countP (fun r => r.fate == 1)
theorem waitN_run {l : List Req} (hn : Numbered l) (h : 0 < nextN l) (pod : Int) : waitN (runLst l (nextN l) pod) + 1 = waitN l := by
  obtain ⟨j, r, h1, _, h3, _, _, _, h4⟩ := run_next hn h pod
  rw [h4]
  have hl := get_lt h1
  have e : l[j] = r := by rw [List.getElem?_eq_getElem hl] at h1; exact Option.some.inj h1
  have hpos : 0 < l.countP (fun r => r.fate == 1) := List.countP_pos_iff.2 ⟨r, List.mem_of_getElem? h1, by simpa using h3⟩
  unfold waitN
  rw [List.countP_set (h := hl), e]
  simp [h3]; omega
theorem run_length (l : List Req) (id pod : Int) : (runLst l id pod).length = l.length := (tame_run l id pod).1
theorem late_length (l : List Req) (now : Int) : (lateLst l now).length = l.length := (tame_late l now).1
theorem lost_length (l : List Req) (x : Int) : (lostLst l x).length = l.length := (tame_lost l x).1
theorem reqDone_length (l : List Req) (x : Int) : (doneLst l x).length = l.length := (tame_done l x).1
theorem ask_length {l : List Req} (h : l.length ≤ 200) (now s n : Int) : (askLst l now s n).length ≤ 200 := by
  unfold askLst
  split
  · rename_i h0
    unfold askErr at h0
    split at h0
    · cases h0
    · split at h0
      · cases h0
      · split at h0
        · cases h0
        · simp; omega
  · exact h
theorem live_turn (l : List Pod) (id src dst : Int) (h : src ≠ 4) (h2 : dst ≠ 4) : liveN (turnLst l id src dst) = liveN l := by
  unfold turnLst
  cases hf : findP l id with
  | none => rfl
  | some i =>
    obtain ⟨p, hp, _⟩ := findP_some hf
    simp only [hp]
    split
    · rename_i hs
      have e1 : lives p = true := by unfold lives; simp [hs, h]
      have e2 : lives { p with state := dst } = true := by unfold lives; simp [h2]
      rw [live_set hp, e1, e2]; simp
    · rfl
theorem live_crash (l : List Pod) (id : Int) : liveN (crashLst l id) ≤ liveN l := by
  unfold crashLst
  cases hf : findP l id with
  | none => exact Int.le_refl _
  | some i =>
    obtain ⟨p, hp, _⟩ := findP_some hf
    simp only
    rw [live_erase hp]; split <;> omega
theorem live_give (l : List Pod) (most : Int) : liveN (giveLst l most) = liveN l := by
  unfold giveLst
  cases hg : giveAt l most with
  | none => rfl
  | some i =>
    obtain ⟨p, hp, hs, _⟩ := giveAt_some hg
    simp only [hp]
    have e : lives { p with load := p.load + 1 } = lives p := rfl
    rw [live_set hp, e]; omega
theorem live_podDone (l : List Pod) (id : Int) : liveN (podDoneLst l id) ≤ liveN l := by
  unfold podDoneLst
  cases hf : findP l id with
  | none => exact Int.le_refl _
  | some i =>
    obtain ⟨p, hp, _⟩ := findP_some hf
    simp only [hp]
    split
    · exact Int.le_refl _
    · split
      · rw [live_erase hp]; split <;> omega
      · have e : lives { p with load := p.load - 1 } = lives p := rfl
        rw [live_set hp, e]; omega
theorem scale_bad {n : Int} (h : scaleErr n ≠ 0) (l : List Pod) (last : Int) : scaleLst l last n = l := by
  have h' : n < 0 ∨ 50 < n := by unfold scaleErr at h; split at h; assumption; exact absurd rfl h
  unfold scaleLst scaleUp scaleDown
  rw [if_pos h', if_pos h']
  simp [newPods, thinN]
theorem live_scale {l : List Pod} {last most : Int} (h : Crewed l last most) (hm : 0 ≤ most) (n : Int) (hl : liveN l ≤ 50) : liveN (scaleLst l last n) ≤ 50 := by
  by_cases c : scaleErr n = 0
  · rw [(h.scale hm n).2.2.1 c]; unfold scaleErr at c; split at c; cases c; omega
  · rw [scale_bad c]; exact hl
theorem back_length (l : List Msg) (now : Int) : (nowLst l now).length = l.length := by unfold nowLst; split; simp [backAll]; rfl
theorem back_back (now : Int) (m : Msg) : back now (back now m) = back now m := by
  unfold back
  by_cases h : (m.taken && decide (m.till ≤ now)) = true
  · rw [if_pos h]; simp
  · rw [if_neg h, if_neg h]
theorem now_now (l : List Msg) (now : Int) : nowLst (nowLst l now) now = nowLst l now := by
  unfold nowLst
  split
  · unfold backAll; rw [List.map_map]; congr 1; funext m; exact back_back now m
  · rfl
theorem depth_now (l : List Msg) (now : Int) : depthNum (nowLst l now) now = depthNum l now := by
  unfold depthNum nowLst
  split
  · unfold backAll; rw [List.map_map]; congr 3; funext m; exact back_back now m
  · rfl
theorem put_length {l : List Msg} (h : l.length ≤ 200) (last n : Int) : (putLst l last n).length ≤ 200 := by
  unfold putLst
  split
  · exact h
  · split
    · exact h
    · rw [List.length_append, newMsgs_length]; omega
theorem putLast_bd {l : List Msg} {last n : Int} (h : 0 ≤ last) : 0 ≤ putLast l last n ∧ putLast l last n ≤ last + 200 := by
  unfold putLast
  split
  · omega
  · split
    · omega
    · omega
theorem lease_length (l : List Msg) (now n : Int) : (leaseLst l now n).length = l.length := by
  unfold leaseLst
  split
  · split
    · simp [backAll]
    · rw [List.length_modify]; simp [backAll]
  · rfl
theorem ack_length (l : List Msg) (now n : Int) : (ackLst l now n).length ≤ l.length := by
  unfold ackLst
  split
  · split
    · simp [backAll]
    · split
      · split
        · exact Nat.le_trans (List.eraseIdx_sublist _ _).length_le (by simp [backAll])
        · simp [backAll]
      · simp [backAll]
  · exact Nat.le_refl _
end Tide
namespace Go.Proofs.YtidonhndeohdlaaGreatDoor
open Go.RowKit
theorem onN_stop {most : Int} {x : List Tide.Req × List Tide.Pod} (h : onGoes most x.1 x.2 = false) : ∀ k, onN most k x = x
  | 0 => rfl
  | k + 1 => by unfold onN; rw [h]; rfl
theorem onN_go {most : Int} {x : List Tide.Req × List Tide.Pod} (h : onGoes most x.1 x.2 = true) (k : Nat) : onN most (k + 1) x = onN most k (Tide.runLst x.1 (Tide.nextN x.1) (Tide.giveNum x.2 most), Tide.giveLst x.2 most) := by
  conv => lhs; unfold onN
  rw [h]; rfl
theorem onN_inv {most : Int} (P : List Tide.Req → List Tide.Pod → Prop) (hs : ∀ b f, P b f → onGoes most b f = true → P (Tide.runLst b (Tide.nextN b) (Tide.giveNum f most)) (Tide.giveLst f most)) : ∀ (k : Nat) (b : List Tide.Req) (f : List Tide.Pod), P b f → P (onN most k (b, f)).1 (onN most k (b, f)).2
  | 0, b, f, h => h
  | k + 1, b, f, h => by
    cases hg : onGoes most b f
    · rw [onN_stop (x := (b, f)) hg]; exact h
    · rw [onN_go (x := (b, f)) hg]; exact onN_inv P hs k _ _ (hs b f h hg)
theorem readsOf_length {tp : List (Int × Int)} {q : List Tide.Msg} {now : Int} : ∀ {ts : List Trg} {bs : List Bool}, bs.length = ts.length → (readsOf tp q now ts bs).length = ts.length
  | [], [], _ => rfl
  | [], _ :: _, h => by simp at h
  | _ :: _, [], h => by simp at h
  | t :: ts, b :: bs, h => by
    have := readsOf_length (tp := tp) (q := q) (now := now) (ts := ts) (bs := bs) (by simpa using h)
    simp [readsOf, this]
section
variable {m : Wo} {j : Nat}
theorem Wo.ok.up (h : m.ok j) {k : Nat} (hk : j ≤ k) : m.ok k := by
  have hl : ∀ d : Nat, m.l.ok (j + d) := fun d => by
    induction d with
    | zero => exact h.lp
    | succ d ih => exact Lp.ok_up ih
  have := hl (k - j)
  rw [show j + (k - j) = k by omega] at this
  exact { h with lp := this, ql1 := by have := h.ql1; omega, fn := by have := h.fn; omega, fl1 := by have := h.fl1; omega }
theorem ok_on (h : m.ok j) : m.on.ok j := by
  have hi := onN_inv (most := m.most) (fun b f => Tide.Fair b ∧ b.length = m.b.length ∧ Tide.Crewed f m.fl m.most ∧ Tide.liveN f = Tide.liveN m.f ∧ f.length = m.f.length) (fun b f hP _ => by
    obtain ⟨h1, h2, h3, h4, h5⟩ := hP
    exact ⟨(Tide.fair_run h1 _ _).1, by rw [Tide.run_length]; exact h2, h3.give.1, by rw [Tide.live_give]; exact h4, by rw [h3.give.2.2]; exact h5⟩) m.b.length m.b m.f ⟨h.fair, rfl, h.crew, rfl, rfl⟩
  obtain ⟨h1, h2, h3, h4, h5⟩ := hi
  unfold Wo.on
  generalize onN m.most m.b.length (m.b, m.f) = x at h1 h2 h3 h4 h5 ⊢
  have b1 := h.bn
  have b2 := h.live
  have b3 := h.fn
  exact ⟨h.lp, h.last, h.tp, h.tn, h.qn, h.ql0, h.ql1, h3, by show Tide.liveN x.2 ≤ 50; omega, by show x.2.length ≤ 50 * j; omega, h.fl1, h.most0, h.most1, h1, by show x.1.length ≤ 200; omega, h.fails, h.now0, h.now1, h.sec0, h.sec1⟩
theorem ok_late (h : m.ok j) (hn : m.now < 1099511627776) : m.late.ok j := by
  have f1 := (Tide.fair_late h.fair (m.now + 1)).1
  have f2 := Tide.late_length m.b (m.now + 1)
  have b1 := h.bn
  have b2 := h.last
  have b3 := h.now0
  unfold Wo.late
  generalize Tide.lateLst m.b (m.now + 1) = x at f1 f2 ⊢
  exact ⟨h.lp, by show m.l.last ≤ m.now + 1; omega, h.tp, h.tn, h.qn, h.ql0, h.ql1, h.crew, h.live, h.fn, h.fl1, h.most0, h.most1, f1, by show x.length ≤ 200; omega, h.fails, by show 0 ≤ m.now + 1; omega, by show m.now + 1 ≤ 1099511627776; omega, h.sec0, h.sec1⟩
theorem lookL_last (l : Lp) (now sec have0 : Int) (rs : List Rd) (busy : Bool) : (lookL l now sec have0 rs busy).last = l.last ∨ (lookL l now sec have0 rs busy).last = now := by
  unfold lookL
  split
  · exact .inl rfl
  · split
    · exact .inr rfl
    · right
      show ((l.seen now rs).marked now _).last = now
      unfold Lp.marked; split <;> rfl
theorem ok_look (h : m.ok j) : m.look.ok (j + 1) := by
  have hm : 0 ≤ m.most := by have := h.most0; omega
  obtain ⟨s1, s2, s3, s4, s5⟩ := h.crew.scale hm m.told
  have hp : m.look.l.p = m.l.p := lookL_p _ _ _ _ _ _
  exact { h with
    lp := look_ok h.lp
    last := by rcases lookL_last m.l m.now (min (m.sec + m.now) 100000000000) (Tide.liveN m.f) m.reads m.busy with e | e
               · exact e ▸ h.last
               · exact Int.le_of_eq e
    qn := by
      show (qAfter _ _ _).length ≤ 200
      unfold qAfter; split
      · rw [Tide.back_length]; exact h.qn
      · exact h.qn
    ql1 := by show m.ql ≤ _; have := h.ql1; omega
    crew := s1
    live := Tide.live_scale h.crew hm m.told h.live
    fn := by show (Tide.scaleLst _ _ _).length ≤ _; have := h.fn; omega
    fl1 := by show Tide.scaleLast _ _ _ ≤ _; have := h.fl1; omega
    fails := by show m.fails.length = m.look.l.p.trigs.length; rw [hp]; exact h.fails }
theorem ok_seen (h : m.ok j) : m.seen.ok (j + 1) := by
  unfold Wo.seen; split
  · exact ok_look h
  · exact h.up (by omega)
theorem ok_tick (h : m.ok j) (hn : m.now < 1099511627776) : m.tick.ok (j + 1) := ok_on (ok_seen (ok_late h hn))
theorem seen_now (m : Wo) : m.seen.now = m.now := by unfold Wo.seen; split <;> rfl
theorem tick_now (m : Wo) : m.tick.now = m.now + 1 := by show m.late.seen.now = _; rw [seen_now]; rfl
theorem ticks_now (n : Nat) (m : Wo) : (ticksN n m).now = m.now + n := by
  induction n with
  | zero => show m.now = _; omega
  | succ n ih => show (ticksN n m).tick.now = _; rw [tick_now, ih]; omega
theorem ok_ticks (h : m.ok j) : ∀ n : Nat, m.now + n ≤ 1099511627776 → (ticksN n m).ok (j + n)
  | 0, _ => h
  | n + 1, hn => by
    have ih := ok_ticks h n (by omega)
    have := ok_tick ih (by rw [ticks_now]; omega)
    exact this
theorem tickE_ok {n : Int} (h : tickE m n = 0) : 1 ≤ n ∧ n ≤ 1000 ∧ m.now + n ≤ 1099511627776 := by
  unfold tickE at h; split at h
  · cases h
  · omega
theorem ok_do (h : m.ok j) (k a n : Int) : (doW m k a n).ok (j + 1000) := by
  have hu : m.ok (j + 1000) := h.up (by omega)
  unfold doW
  by_cases k1 : k = 1
  · rw [if_pos k1]
    split
    · rename_i he
      obtain ⟨h1, h2, h3⟩ := tickE_ok he
      exact (ok_ticks h n.toNat (by omega)).up (by omega)
    · exact hu
  rw [if_neg k1]
  by_cases k2 : k = 2
  · rw [if_pos k2]; exact { hu with tp := h.tp.makes a n, tn := by show (makeLst _ _ _).length ≤ 20; rw [makeLst_length]; exact h.tn }
  rw [if_neg k2]
  by_cases k3 : k = 3
  · rw [if_pos k3]; exact { hu with tp := h.tp.takes a n, tn := by show (takeLst _ _ _).length ≤ 20; rw [takeLst_length]; exact h.tn }
  rw [if_neg k3]
  by_cases k4 : k = 4
  · rw [if_pos k4]
    have hq := Tide.putLast_bd (l := m.q) (n := n) h.ql0
    have := h.ql1
    exact { hu with qn := Tide.put_length h.qn _ _, ql0 := hq.1, ql1 := by show Tide.putLast _ _ _ ≤ _; omega }
  rw [if_neg k4]
  by_cases k5 : k = 5
  · rw [if_pos k5]; exact { hu with qn := by show (Tide.leaseLst _ _ _).length ≤ 200; rw [Tide.lease_length]; exact h.qn }
  rw [if_neg k5]
  by_cases k6 : k = 6
  · rw [if_pos k6]; exact { hu with qn := Nat.le_trans (Tide.ack_length _ _ _) h.qn }
  rw [if_neg k6]
  by_cases k7 : k = 7
  · rw [if_pos k7]
    split
    · exact { hu with fails := by show (m.fails.set _ _).length = _; rw [List.length_set]; exact h.fails }
    · exact hu
  rw [if_neg k7]
  have hst := h.crew.turn n 1 2 (.inl ⟨rfl, rfl⟩)
  have hrd := h.crew.turn n 2 3 (.inr ⟨rfl, rfl⟩)
  have hcr := h.crew.crash n
  by_cases k8 : k = 8
  · rw [if_pos k8]; exact { hu with crew := hst.1, live := by show Tide.liveN (Tide.turnLst _ _ _ _) ≤ 50; rw [Tide.live_turn _ _ _ _ (by omega) (by omega)]; exact h.live, fn := by show (Tide.turnLst _ _ _ _).length ≤ _; rw [hst.2.2]; exact hu.fn }
  rw [if_neg k8]
  by_cases k9 : k = 9
  · rw [if_pos k9]
    split
    · exact ok_on { hu with crew := hrd.1, live := by show Tide.liveN (Tide.turnLst _ _ _ _) ≤ 50; rw [Tide.live_turn _ _ _ _ (by omega) (by omega)]; exact h.live, fn := by show (Tide.turnLst _ _ _ _).length ≤ _; rw [hrd.2.2]; exact hu.fn }
    · exact hu
  rw [if_neg k9]
  by_cases k10 : k = 10
  · rw [if_pos k10]
    split
    · exact ok_on { hu with crew := hcr.1, live := Int.le_trans (Tide.live_crash _ _) h.live, fn := Nat.le_trans hcr.2.2 hu.fn, fair := (Tide.fair_lost h.fair _).1, bn := by show (Tide.lostLst _ _).length ≤ 200; rw [Tide.lost_length]; exact h.bn }
    · exact hu
  rw [if_neg k10]
  by_cases k11 : k = 11
  · rw [if_pos k11]
    split
    · exact ok_on { hu with fair := (Tide.fair_ask h.fair _ _ _).1, bn := Tide.ask_length h.bn _ _ _ }
    · exact hu
  rw [if_neg k11]
  by_cases k12 : k = 12
  · rw [if_pos k12]
    have hd := h.crew.done (Tide.doneNum m.b n)
    split
    · exact ok_on (m := doneW m n) { hu with crew := hd.1, live := Int.le_trans (Tide.live_podDone _ _) h.live, fn := Nat.le_trans hd.2.2 hu.fn, fair := (Tide.fair_done h.fair _).1, bn := by show (Tide.doneLst _ _).length ≤ 200; rw [Tide.reqDone_length]; exact h.bn }
    · exact hu
  rw [if_neg k12]
  split
  · exact { hu with lp := pause_ok hu.lp n, last := by show (pauseL m.l n).last ≤ m.now; unfold pauseL; split <;> exact h.last, fails := by show m.fails.length = (pauseL m.l n).p.trigs.length; rw [pauseL_p]; exact h.fails }
  · exact hu
theorem ok_new {p : Pln} {parts most sec : Int} (hp : planE p = 0) (hf : ∀ t ∈ p.trigs, t.fits) (h1 : parts ≤ 20) (h2 : -10000000000 ≤ sec) (h3 : sec ≤ 10000000000) : (newWo p parts most sec).ok 0 where
  lp := newLp_ok hp hf
  last := Int.le_refl _
  tp := fun q hq => by
    have := List.eq_of_mem_replicate (show q ∈ List.replicate parts.toNat ((0 : Int), (0 : Int)) from hq)
    subst this; simp
  tn := by show (List.replicate _ _).length ≤ 20; rw [List.length_replicate]; omega
  qn := by show 0 ≤ 200; omega
  ql0 := Int.le_refl _
  ql1 := by show (0 : Int) ≤ _; omega
  crew := Tide.Crewed.nil _
  live := by show Tide.liveN [] ≤ 50; decide
  fn := by show 0 ≤ _; omega
  fl1 := by show (0 : Int) ≤ _; omega
  most0 := by show 1 ≤ min (max most 1) 100; omega
  most1 := by show min (max most 1) 100 ≤ 100; omega
  fair := Tide.Fair.nil
  bn := by show 0 ≤ 200; omega
  fails := by show (List.replicate _ _).length = _; rw [List.length_replicate]; rfl
  now0 := Int.le_refl _
  now1 := by show (0 : Int) ≤ _; omega
  sec0 := h2
  sec1 := h3
end
end Go.Proofs.YtidonhndeohdlaaGreatDoor
namespace Tide
end Tide
namespace Go.Proofs.YtidonhndeohdlaaGreatDoor
open Go.RowKit
structure Bp where
  b : List Tide.Req
  f : List Tide.Pod
  fl : Int
  now : Int
inductive El (most : Int) : Bp → Bp → Prop
  | ask (b : List Tide.Req) (f : List Tide.Pod) (fl now s n : Int) (h : Tide.askErr b now s n = 0) : El most ⟨b, f, fl, now⟩ ⟨Tide.askLst b now s n, f, fl, now⟩
  | late (b : List Tide.Req) (f : List Tide.Pod) (fl now : Int) (h0 : 0 ≤ now) (h1 : now < 1099511627776) : El most ⟨b, f, fl, now⟩ ⟨Tide.lateLst b (now + 1), f, fl, now + 1⟩
  | run (b : List Tide.Req) (f : List Tide.Pod) (fl now : Int) (h : onGoes most b f = true) : El most ⟨b, f, fl, now⟩ ⟨Tide.runLst b (Tide.nextN b) (Tide.giveNum f most), Tide.giveLst f most, fl, now⟩
  | done (b : List Tide.Req) (f : List Tide.Pod) (fl now n : Int) (h : Tide.doneErr b n = 0) : El most ⟨b, f, fl, now⟩ ⟨Tide.doneLst b n, Tide.podDoneLst f (Tide.doneNum b n), fl, now⟩
  | crash (b : List Tide.Req) (f : List Tide.Pod) (fl now n : Int) (h : Tide.crashErr f n = 0) : El most ⟨b, f, fl, now⟩ ⟨Tide.lostLst b n, Tide.crashLst f n, fl, now⟩
  | turn (b : List Tide.Req) (f : List Tide.Pod) (fl now n src dst : Int) (h : src = 1 ∧ dst = 2 ∨ src = 2 ∧ dst = 3) : El most ⟨b, f, fl, now⟩ ⟨b, Tide.turnLst f n src dst, fl, now⟩
  | scale (b : List Tide.Req) (f : List Tide.Pod) (fl now n : Int) : El most ⟨b, f, fl, now⟩ ⟨b, Tide.scaleLst f fl n, Tide.scaleLast f fl n, now⟩
inductive Els (most : Int) (x : Bp) : Bp → Prop
  | refl : Els most x x
  | step {y z : Bp} (h : Els most x y) (k : El most y z) : Els most x z
theorem Els.trans {most : Int} {x y z : Bp} (h : Els most x y) (k : Els most y z) : Els most x z := by
  induction k with
  | refl => exact h
  | step _ k ih => exact ih.step k
section
variable {m : Wo} {j : Nat}
end
/-! TopLate -/
/-! TopOnce -/
def Once (a r : Tide.Req) : Prop := r.id = a.id ∧ r.source = a.source ∧ (a.pod = 0 ∨ r.pod = a.pod) ∧ (3 ≤ a.fate → r.fate = a.fate)
def Onces (l l' : List Tide.Req) : Prop := l.length ≤ l'.length ∧ ∀ (k : Nat) (a : Tide.Req), l[k]? = some a → ∃ r, l'[k]? = some r ∧ Once a r
theorem Once.refl (a : Tide.Req) : Once a a := ⟨rfl, rfl, .inr rfl, fun _ => rfl⟩
theorem Onces.refl (l : List Tide.Req) : Onces l l := ⟨Nat.le_refl _, fun k a h => ⟨a, h, Once.refl a⟩⟩
theorem Onces.trans {l l' l'' : List Tide.Req} (h : Onces l l') (k : Onces l' l'') : Onces l l'' := ⟨Nat.le_trans h.1 k.1, fun i a ha => by
  obtain ⟨r, h1, h2, h3, h4, h5⟩ := h.2 i a ha
  obtain ⟨q, k1, k2, k3, k4, k5⟩ := k.2 i r h1
  refine ⟨q, k1, k2.trans h2, k3.trans h3, ?_, fun e => (k5 (by rw [h5 e]; exact e)).trans (h5 e)⟩
  rcases h4 with h4 | h4
  · exact .inl h4
  · rcases k4 with k4 | k4
    · left; omega
    · right; omega⟩
end Go.Proofs.YtidonhndeohdlaaGreatDoor
