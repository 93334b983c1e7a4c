/- A loop and the reference's side by side; the walk of LoopPlays. -/
import Derived.Test.YtidonhndeohdlaaGreatWlWatE
import Derived.Test.YtidonhndeohdlaaGreatWlRplC
set_option linter.unusedVariables false
set_option linter.unusedSimpArgs false
set_option maxRecDepth 100000
set_option maxHeartbeats 12800000
namespace Go.Proofs.YtidonhndeohdlaaGreat
open Go.RowKit
structure BothLp (w0 w : World) (top gx gw gs gs' : Nat) (vt vx vf vw vm vf' vw' vm' : Value) (S1 S2 T1 T2 : Nat → Prop) (l m : Lp) : Prop where
 x : LopAt 117 155 200 S1 S2 w gx gs vx vf vw vm l
 r : WatAt (fun b => b < w0.heap.size) T1 T2 w gw gs' vt vf' vw' vm' m
 xb : ∀ b, S1 b ∨ S2 b → w0.heap.size ≤ b ∧ b ≠ top
 rb : ∀ b, T1 b ∨ T2 b → w0.heap.size ≤ b ∧ b ≠ top
 dis : ∀ b, S1 b ∨ S2 b → ¬ (T1 b ∨ T2 b)
 u : Below w0.heap.size w0 w
section
variable {w0 w w' : World} {top gx gw : Nat} {vt : Value} {l m : Lp}
end
theorem watLook (RT S1 S2 R : Nat → Prop) (g gs : Nat) (vt vf vw vm v : Value) (l : Lp) (now sec have0 : Int) (rs : List RdV) (busy : Bool) (j : Nat) (w : World) (h : WatAt RT S1 S2 w g gs vt vf vw vm l) (hr : RdsIn R w v rs)
  (hRS : ∀ b, R b → ¬ S1 b ∧ ¬ S2 b) (hRT : ∀ b, RT b → b < w.heap.size) (hl : l.ok j) (hj : j ≤ 90000) (hrl : rs.length ≤ 9223372036854775807) :
  Calls Tryz.prog 82 #[.pointer (some ⟨g, 0, none⟩), .int .i64 now, .int .i64 sec, .int .i64 have0, v, .bool busy] w (WatPost RT S1 S2 w g gs vt vf l now sec have0 (rs.map RdV.rd) busy) := by
 cases hok : lookOk l now sec have0 rs.length
 ·exact watLookNo RT S1 S2 R g gs vt vf vw vm v l now sec have0 rs busy w h hr hRT hrl (planE_ok hl.plan).few hok
 exact watLookYes RT S1 S2 R g gs vt vf vw vm v l now sec have0 rs busy j w h hr hRS hRT hl hj hok
theorem refInT (n lo hi : Int) (w : World) (h0 : lo ≤ n) (h1 : n ≤ hi) : Calls Tryz.prog 6 #[.int .i64 n, .int .i64 lo, .int .i64 hi] w fun e w' => e = .returned (.bool true) ∧ w' = w := (refIn_yes n lo hi w h0 h1).mono fun _ _ h => ⟨h.1, h.2.symm⟩
theorem refInF (n lo hi : Int) (w : World) (h : n < lo ∨ hi < n) : Calls Tryz.prog 6 #[.int .i64 n, .int .i64 lo, .int .i64 hi] w fun e w' => e = .returned (.bool false) ∧ w' = w := (refIn_no n lo hi w h).mono fun _ _ h => ⟨h.1, h.2.symm⟩
theorem refPlanV (p : Pln) (A : Option Addr) (cap : Nat) (w : World) (ht : G.ListIn w 17 Trg.enc (.slice A p.trigs.length cap) p.trigs) (hf : ∀ t ∈ p.trigs, t.fits) (hn : p.name.size ≤ 9223372036854775807) (hl : p.trigs.length ≤ 9223372036854775807) :
  Calls Tryz.prog 5 #[plnV p (.slice A p.trigs.length cap)] w fun e w' => e = .returned (.int .i64 (planE p)) ∧ Below w.heap.size w w' := by
 obtain ⟨name, mn, mx, poll, cool, tol, back, after, shift, ⟨u0, u1, u2, u3⟩, ⟨d0, d1, d2, d3⟩, ts⟩ := p
 exact refPlan name mn mx poll cool tol back after shift u0 u1 u2 u3 d0 d1 d2 d3 A cap ts w ht hf hn hl
end Go.Proofs.YtidonhndeohdlaaGreat
