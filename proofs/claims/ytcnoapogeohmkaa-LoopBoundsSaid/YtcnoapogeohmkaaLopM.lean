/- What a loop does, as plain functions. -/
import Derived.Test.YtcnoapogeohmkaaPlnM
import Derived.Test.YtcnoapogeohmkaaNeedC
import Derived.Test.YtcnoapogeohmkaaNeedD
set_option linter.unusedVariables false
set_option linter.unusedSimpArgs false
namespace Go.Proofs.Ytcnoapogeohmkaa
open Go.RowKit
set_option linter.unusedVariables false
structure Rd where
  failed : Bool
  xs : List Int
structure Lp where
  p : Pln
  s : Tide.Stb
  fails : List Int
  looked : Bool
  last : Int
  needed : Int
  pause : Int
def failOf (t : Trg) (r : Rd) (f : Int) : Int := if r.failed && !(t.kind == 3) then f + 1 else 0
def failsL : List Trg → List Rd → List Int → List Int
  | t :: ts, r :: rs, f :: fs => failOf t r f :: failsL ts rs fs
  | _, _, _ => []
/-- the need that a trigger tells, of a reading -/
def needT (t : Trg) (sec shift : Int) (r : Rd) : Int × Bool × Int := needR t.a t.b t.kind t.target t.act sec shift r.failed (Tide.metN t.kind (Tide.spot r.xs) r.xs.length) ((Tide.metM t.kind (Tide.spot r.xs) r.xs.length : Nat) : Int)
def wantT (t : Trg) (now tol : Int) (r : Rd) : Int × Int := wantR now tol t.kind t.target r.failed (Tide.metN t.kind (Tide.spot r.xs) r.xs.length) (needT t 0 0 r).1
/-- what one trigger wants: how many, and whether there is a need -/
def oneT (p : Pln) (t : Trg) (f : Int) (r : Rd) (sec have0 : Int) : Int × Bool :=
  if 0 < f then (if 0 < p.after ∧ p.after ≤ f then p.back else have0, true)
  else (if t.kind = 3 then (needT t sec p.shift r).1 else (wantT t have0 p.tol r).1, (needT t sec p.shift r).2.1)
def allT (p : Pln) (sec have0 : Int) : List Trg → List Rd → List Int → Int × Bool → Int × Bool
  | t :: ts, r :: rs, f :: fs, (w, b) => allT p sec have0 ts rs fs (max w (oneT p t f r sec have0).1, b || (oneT p t f r sec have0).2)
  | _, _, _, x => x
def lookOk (l : Lp) (now sec have0 : Int) (n : Nat) : Bool := decide (l.last ≤ now) && (decide (now ≤ 1099511627776) && (decide (-100000000000 ≤ sec) && (decide (sec ≤ 100000000000) && (decide (0 ≤ have0) && (decide (have0 ≤ 50) && decide (n = l.p.trigs.length))))))
def lowOf (p : Pln) (needed now have0 : Int) (b : Bool) : Int := if b then max p.mn 1 else if now - p.cool < needed then max p.mn (min have0 1) else p.mn
def clipOf (low mx n : Int) : Int := min (max n low) mx
/-- behind the counting of failures -/
def Lp.seen (l : Lp) (now : Int) (rs : List Rd) : Lp := { l with looked := true, last := now, fails := failsL l.p.trigs rs l.fails }
def Lp.told (l : Lp) (sec have0 : Int) (rs : List Rd) (busy : Bool) : Int × Bool := allT l.p sec have0 l.p.trigs rs l.fails (0, busy)
def Lp.marked (l : Lp) (now : Int) (b : Bool) : Lp := if b then { l with needed := now } else l
/-- the wish that is handed to the Stable, of a loop whose failures are counted -/
def Lp.wish (l : Lp) (now sec have0 : Int) (rs : List Rd) (busy : Bool) : Int :=
  clipOf (lowOf l.p (l.marked now (l.told sec have0 rs busy).2).needed now have0 (l.told sec have0 rs busy).2) l.p.mx (l.told sec have0 rs busy).1
def lookN (l : Lp) (now sec have0 : Int) (rs : List Rd) (busy : Bool) : Int :=
  if lookOk l now sec have0 rs.length = false then 0
  else if 0 ≤ l.pause then l.pause
  else clipOf (lowOf l.p ((l.seen now rs).marked now ((l.seen now rs).told sec have0 rs busy).2).needed now have0 ((l.seen now rs).told sec have0 rs busy).2) l.p.mx (Tide.settleN l.s now have0 ((l.seen now rs).wish now sec have0 rs busy))
def lookE (l : Lp) (now sec have0 : Int) (n : Nat) : Int := if lookOk l now sec have0 n = false then 1 else 0
def lookL (l : Lp) (now sec have0 : Int) (rs : List Rd) (busy : Bool) : Lp :=
  if lookOk l now sec have0 rs.length = false then l
  else if 0 ≤ l.pause then l.seen now rs
  else { (l.seen now rs).marked now ((l.seen now rs).told sec have0 rs busy).2 with s := Tide.settleS l.s now have0 ((l.seen now rs).wish now sec have0 rs busy) }
def dueB (l : Lp) (now : Int) : Bool := !l.looked || (decide (l.last ≤ now) && decide (l.p.poll ≤ now - l.last))
def pauseE (n : Int) : Int := if n < -1 ∨ 50 < n then 1 else 0
def pauseL (l : Lp) (n : Int) : Lp := if n < -1 ∨ 50 < n then l else { l with pause := n }
def failsAt (l : Lp) (i : Int) : Int := if i < 0 ∨ (l.fails.length : Int) ≤ i then 0 else (l.fails[i.toNat]?).getD 0
structure Lp.ok (l : Lp) (j : Nat) : Prop where
  plan : planE l.p = 0
  fits : ∀ t ∈ l.p.trigs, t.fits
  st : l.s.ok j
  sl : l.s.last ≤ l.last
  last0 : 0 ≤ l.last
  last1 : l.last ≤ 1099511627776
  need0 : 0 ≤ l.needed
  need1 : l.needed ≤ l.last
  many : l.fails.length = l.p.trigs.length
  fail : ∀ f ∈ l.fails, 0 ≤ f ∧ f ≤ j
  paus : -1 ≤ l.pause ∧ l.pause ≤ 50
def newLp (p : Pln) : Lp := ⟨p, ⟨p.up.fix, p.down.fix, 0, [], []⟩, List.replicate p.trigs.length 0, false, 0, 0, -1⟩
end Go.Proofs.Ytcnoapogeohmkaa
