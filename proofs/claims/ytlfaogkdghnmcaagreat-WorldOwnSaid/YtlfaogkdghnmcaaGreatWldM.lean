/- What a world does, as plain functions. -/
import Derived.Test.YtlfaogkdghnmcaaGreatZLopA
import Derived.Test.YtlfaogkdghnmcaaGreatZTop
import Derived.Test.YtlfaogkdghnmcaaGreatZQue
import Derived.Test.YtlfaogkdghnmcaaGreatZFle
import Derived.Test.YtlfaogkdghnmcaaGreatZBuf
set_option linter.unusedVariables false
set_option linter.unusedSimpArgs false
namespace Go.Proofs.YtlfaogkdghnmcaaGreat
open Go.RowKit
structure Wo where
  l : Lp
  t : List (Int × Int)
  q : List Tide.Msg
  ql : Int
  f : List Tide.Pod
  fl : Int
  most : Int
  b : List Tide.Req
  fails : List Bool
  sec : Int
  now : Int
  target : Int
/-- is something handed on? -/
def onGoes (most : Int) (b : List Tide.Req) (f : List Tide.Pod) : Bool := decide (0 < Tide.nextN b) && (Tide.giveErr f most == 0)
def onN (most : Int) : Nat → List Tide.Req × List Tide.Pod → List Tide.Req × List Tide.Pod
  | 0, x => x
  | k + 1, x => if onGoes most x.1 x.2 then onN most k (Tide.runLst x.1 (Tide.nextN x.1) (Tide.giveNum x.2 most), Tide.giveLst x.2 most) else x
def Wo.on (m : Wo) : Wo := { m with b := (onN m.most m.b.length (m.b, m.f)).1, f := (onN m.most m.b.length (m.b, m.f)).2 }
def isDepth (t : Trg) : Bool := t.kind == 2
def readOf (t : Trg) (failed : Bool) (tp : List (Int × Int)) (q : List Tide.Msg) (now : Int) : Rd := ⟨failed, if t.kind = 1 then lagsOf tp else if t.kind = 2 then [Tide.depthNum q now] else []⟩
def readsOf (tp : List (Int × Int)) (q : List Tide.Msg) (now : Int) : List Trg → List Bool → List Rd
  | t :: ts, b :: bs => readOf t b tp q now :: readsOf tp q now ts bs
  | _, _ => []
/-- the queue behind the readings -/
def qAfter (ts : List Trg) (q : List Tide.Msg) (now : Int) : List Tide.Msg := if ts.any isDepth then Tide.nowLst q now else q
def Wo.reads (m : Wo) : List Rd := readsOf m.t m.q m.now m.l.p.trigs m.fails
def Wo.busy (m : Wo) : Bool := decide (0 < Tide.countF (-1) 1 m.b + Tide.countF (-1) 2 m.b)
def Wo.told (m : Wo) : Int := lookN m.l m.now (min (m.sec + m.now) 100000000000) (Tide.liveN m.f) m.reads m.busy
def Wo.look (m : Wo) : Wo := { m with
  l := lookL m.l m.now (min (m.sec + m.now) 100000000000) (Tide.liveN m.f) m.reads m.busy
  q := qAfter m.l.p.trigs m.q m.now
  f := Tide.scaleLst m.f m.fl m.told
  fl := Tide.scaleLast m.f m.fl m.told
  target := m.told }
def Wo.late (m : Wo) : Wo := { m with now := m.now + 1, b := Tide.lateLst m.b (m.now + 1) }
def Wo.seen (m : Wo) : Wo := if dueB m.l m.now then m.look else m
def Wo.tick (m : Wo) : Wo := m.late.seen.on
def ticksN : Nat → Wo → Wo
  | 0, m => m
  | k + 1, m => (ticksN k m).tick
def tickE (m : Wo) (n : Int) : Int := if n < 1 ∨ 1000 < n ∨ 1099511627776 - m.now < n then 1 else 0
def failE (m : Wo) (i n : Int) : Int := if i < 0 ∨ (m.fails.length : Int) ≤ i then 4 else if n ≠ 0 ∧ n ≠ 1 then 1 else 0
def doE (m : Wo) (k a n : Int) : Int :=
  if k = 1 then tickE m n
  else if k = 2 then makeErr m.t a n
  else if k = 3 then takeErr m.t a n
  else if k = 4 then Tide.putErr m.q n
  else if k = 5 then Tide.leaseErr m.q m.now n
  else if k = 6 then Tide.ackErr m.q m.now n
  else if k = 7 then failE m a n
  else if k = 8 then Tide.turnErr m.f n 1
  else if k = 9 then Tide.turnErr m.f n 2
  else if k = 10 then Tide.crashErr m.f n
  else if k = 11 then Tide.askErr m.b m.now a n
  else if k = 12 then Tide.doneErr m.b n
  else if k = 13 then pauseE n
  else 1
def doneW (m : Wo) (n : Int) : Wo := { m with b := Tide.doneLst m.b n, f := Tide.podDoneLst m.f (Tide.doneNum m.b n) }
def doW (m : Wo) (k a n : Int) : Wo :=
  if k = 1 then (if tickE m n = 0 then ticksN n.toNat m else m)
  else if k = 2 then { m with t := makeLst m.t a n }
  else if k = 3 then { m with t := takeLst m.t a n }
  else if k = 4 then { m with q := Tide.putLst m.q m.ql n, ql := Tide.putLast m.q m.ql n }
  else if k = 5 then { m with q := Tide.leaseLst m.q m.now n }
  else if k = 6 then { m with q := Tide.ackLst m.q m.now n }
  else if k = 7 then (if failE m a n = 0 then { m with fails := m.fails.set a.toNat (n == 1) } else m)
  else if k = 8 then { m with f := Tide.turnLst m.f n 1 2 }
  else if k = 9 then (if Tide.turnErr m.f n 2 = 0 then ({ m with f := Tide.turnLst m.f n 2 3 } : Wo).on else m)
  else if k = 10 then (if Tide.crashErr m.f n = 0 then ({ m with f := Tide.crashLst m.f n, b := Tide.lostLst m.b n } : Wo).on else m)
  else if k = 11 then (if Tide.askErr m.b m.now a n = 0 then ({ m with b := Tide.askLst m.b m.now a n } : Wo).on else m)
  else if k = 12 then (if Tide.doneErr m.b n = 0 then (doneW m n).on else m)
  else if k = 13 then { m with l := pauseL m.l n }
  else m
def newWo (p : Pln) (parts most sec : Int) : Wo := ⟨newLp p, List.replicate parts.toNat (0, 0), [], 0, [], 0, min (max most 1) 100, [], List.replicate p.trigs.length false, sec, 0, 0⟩
def newE (p : Pln) (parts sec : Int) : Int := if planE p ≠ 0 then planE p else if parts < 1 ∨ 20 < parts then 1 else if sec < -10000000000 ∨ 10000000000 < sec then 1 else 0
/-- what always holds of a world that has stepped j times at most -/
structure Wo.ok (m : Wo) (j : Nat) : Prop where
  lp : m.l.ok j
  last : m.l.last ≤ m.now
  tp : Small m.t
  tn : m.t.length ≤ 20
  qn : m.q.length ≤ 200
  ql0 : 0 ≤ m.ql
  ql1 : m.ql ≤ 200 * j
  crew : Tide.Crewed m.f m.fl m.most
  live : Tide.liveN m.f ≤ 50
  fn : m.f.length ≤ 50 * j
  fl1 : m.fl ≤ 50 * j
  most0 : 1 ≤ m.most
  most1 : m.most ≤ 100
  fair : Tide.Fair m.b
  bn : m.b.length ≤ 200
  fails : m.fails.length = m.l.p.trigs.length
  now0 : 0 ≤ m.now
  now1 : m.now ≤ 1099511627776
  sec0 : -10000000000 ≤ m.sec
  sec1 : m.sec ≤ 10000000000
end Go.Proofs.YtlfaogkdghnmcaaGreat
