/- What a buffer does, as plain functions on lists. -/
import Derived.Test.YtgcdomoecikooaaLst
namespace Tide
open Go
/-- a request -/
structure Req where
  id : Int
  source : Int
  till : Int
  fate : Int
  pod : Int
  deriving DecidableEq
def Req.enc (r : Req) : List Value := [.int .i64 r.id, .int .i64 r.source, .int .i64 r.till, .int .i64 r.fate, .int .i64 r.pod]
theorem Req.enc_length (r : Req) : r.enc.length = 5 := rfl
/-- of a source (below 0: of any) with a fate -/
def hasF (src fate : Int) (r : Req) : Bool := (r.fate == fate) && (decide (src < 0) || (r.source == src))
def countF (src fate : Int) (l : List Req) : Int := (l.countP (hasF src fate) : Nat)
def askErr (l : List Req) (now src ticks : Int) : Int :=
  if now < 0 ∨ 1099511627776 < now ∨ ticks < 1 ∨ 100000 < ticks then 1 else if src < 0 ∨ 6 ≤ src then 4 else if countF src 1 l = 20 ∨ countF (-1) 1 l = 60 ∨ l.length = 200 then 6 else 0
def askLst (l : List Req) (now src ticks : Int) : List Req := if askErr l now src ticks = 0 then l ++ [⟨l.length + 1, src, now + ticks, 1, 0⟩] else l
def askNum (l : List Req) (now src ticks : Int) : Int := if askErr l now src ticks = 0 then l.length + 1 else 0
/-- those that something holds of get a fate -/
def setF (p : Req → Bool) (fate : Int) (r : Req) : Req := if p r then { r with fate := fate } else r
def idsF (p : Req → Bool) (l : List Req) : List Int := (l.filter p).map (·.id)
def isLate (now : Int) (r : Req) : Bool := (r.fate == 1) && decide (r.till ≤ now)
def isLost (pod : Int) (r : Req) : Bool := (r.fate == 2) && (r.pod == pod)
def timeOk (now : Int) : Bool := decide (0 ≤ now) && decide (now ≤ 1099511627776)
def lateLst (l : List Req) (now : Int) : List Req := if timeOk now then l.map (setF (isLate now) 4) else l
def lateIds (l : List Req) (now : Int) : List Int := if timeOk now then idsF (isLate now) l else []
def lateErr (now : Int) : Int := if timeOk now then 0 else 1
def lostLst (l : List Req) (pod : Int) : List Req := l.map (setF (isLost pod) 5)
def waitsOf (src : Int) (r : Req) : Bool := (r.source == src) && (r.fate == 1)
def firstN (l : List Req) (src : Int) : Int := if 0 < countF src 2 l then 0 else match firstAt (waitsOf src) l with | none => 0 | some i => ((l[i]?).map (·.id)).getD 0
def bestStep (l : List Req) (best : Int) (s : Nat) : Int := if 0 < firstN l s ∧ (best = 0 ∨ firstN l s < best) then firstN l s else best
def nextN (l : List Req) : Int := (List.range 6).foldl (bestStep l) 0
def reqAt (l : List Req) (id : Int) : Option Req := if 1 ≤ id then l[(id - 1).toNat]? else none
def runErr (l : List Req) (id : Int) : Int := match reqAt l id with | none => 4 | some r => if firstN l r.source = id then 0 else 7
def runLst (l : List Req) (id pod : Int) : List Req := match reqAt l id with | none => l | some r => if firstN l r.source = id then l.set (id - 1).toNat { r with fate := 2, pod := pod } else l
def doneErr (l : List Req) (id : Int) : Int := match reqAt l id with | none => 4 | some r => if r.fate = 2 then 0 else 7
def doneNum (l : List Req) (id : Int) : Int := match reqAt l id with | none => 0 | some r => if r.fate = 2 then r.pod else 0
def doneLst (l : List Req) (id : Int) : List Req := match reqAt l id with | none => l | some r => if r.fate = 2 then l.set (id - 1).toNat { r with fate := 3 } else l
end Tide
