/- What a loop does, as plain functions. A loop in memory; the contracts of low, Due, Fails, Pause. -/
import Derived.Test.YtcnoapogeohmkaaZPln
import Derived.Test.YtcnoapogeohmkaaNeedC
import Derived.Test.YtcnoapogeohmkaaNeedD
import Derived.Test.YtcnoapogeohmkaaPlnE
import Derived.Test.YtcnoapogeohmkaaZStb

set_option linter.unusedVariables false
set_option linter.unusedSimpArgs false
namespace Go.Proofs.Ytcnoapogeohmkaa
open Go.RowKit
set_option linter.unusedVariables false
structure Rd where
  failed : Bool
  xs : List Int
structure Lp where
  p : Pln
  s : Tide.Stb
  fails : List Int
  looked : Bool
  last : Int
  needed : Int
  pause : Int
def failOf (t : Trg) (r : Rd) (f : Int) : Int := if r.failed && !(t.kind == 3) then f + 1 else 0
def failsL : List Trg → List Rd → List Int → List Int
  | t :: ts, r :: rs, f :: fs => failOf t r f :: failsL ts rs fs
  | _, _, _ => []
/-- the need that a trigger tells, of a reading -/
def needT (t : Trg) (sec shift : Int) (r : Rd) : Int × Bool × Int := needR t.a t.b t.kind t.target t.act sec shift r.failed (Tide.metN t.kind (Tide.spot r.xs) r.xs.length) ((Tide.metM t.kind (Tide.spot r.xs) r.xs.length : Nat) : Int)
def wantT (t : Trg) (now tol : Int) (r : Rd) : Int × Int := wantR now tol t.kind t.target r.failed (Tide.metN t.kind (Tide.spot r.xs) r.xs.length) (needT t 0 0 r).1
/-- what one trigger wants: how many, and whether there is a need -/
def oneT (p : Pln) (t : Trg) (f : Int) (r : Rd) (sec have0 : Int) : Int × Bool :=
  if 0 < f then (if 0 < p.after ∧ p.after ≤ f then p.back else have0, true)
  else (if t.kind = 3 then (needT t sec p.shift r).1 else (wantT t have0 p.tol r).1, (needT t sec p.shift r).2.1)
def allT (p : Pln) (sec have0 : Int) : List Trg → List Rd → List Int → Int × Bool → Int × Bool
  | t :: ts, r :: rs, f :: fs, (w, b) => allT p sec have0 ts rs fs (max w (oneT p t f r sec have0).1, b || (oneT p t f r sec have0).2)
  | _, _, _, x => x
def lookOk (l : Lp) (now sec have0 : Int) (n : Nat) : Bool := decide (l.last ≤ now) && (decide (now ≤ 1099511627776) && (decide (-100000000000 ≤ sec) && (decide (sec ≤ 100000000000) && (decide (0 ≤ have0) && (decide (have0 ≤ 50) && decide (n = l.p.trigs.length))))))
def lowOf (p : Pln) (needed now have0 : Int) (b : Bool) : Int := if b then max p.mn 1 else if now - p.cool < needed then max p.mn (min have0 1) else p.mn
def clipOf (low mx n : Int) : Int := min (max n low) mx
/-- behind the counting of failures -/
def Lp.seen (l : Lp) (now : Int) (rs : List Rd) : Lp := { l with looked := true, last := now, fails := failsL l.p.trigs rs l.fails }
def Lp.told (l : Lp) (sec have0 : Int) (rs : List Rd) (busy : Bool) : Int × Bool := allT l.p sec have0 l.p.trigs rs l.fails (0, busy)
def Lp.marked (l : Lp) (now : Int) (b : Bool) : Lp := if b then { l with needed := now } else l
/-- the wish that is handed to the Stable, of a loop whose failures are counted -/
def Lp.wish (l : Lp) (now sec have0 : Int) (rs : List Rd) (busy : Bool) : Int :=
  clipOf (lowOf l.p (l.marked now (l.told sec have0 rs busy).2).needed now have0 (l.told sec have0 rs busy).2) l.p.mx (l.told sec have0 rs busy).1
def lookN (l : Lp) (now sec have0 : Int) (rs : List Rd) (busy : Bool) : Int :=
  if lookOk l now sec have0 rs.length = false then 0
  else if 0 ≤ l.pause then l.pause
  else clipOf (lowOf l.p ((l.seen now rs).marked now ((l.seen now rs).told sec have0 rs busy).2).needed now have0 ((l.seen now rs).told sec have0 rs busy).2) l.p.mx (Tide.settleN l.s now have0 ((l.seen now rs).wish now sec have0 rs busy))
def lookE (l : Lp) (now sec have0 : Int) (n : Nat) : Int := if lookOk l now sec have0 n = false then 1 else 0
def lookL (l : Lp) (now sec have0 : Int) (rs : List Rd) (busy : Bool) : Lp :=
  if lookOk l now sec have0 rs.length = false then l
  else if 0 ≤ l.pause then l.seen now rs
  else { (l.seen now rs).marked now ((l.seen now rs).told sec have0 rs busy).2 with s := Tide.settleS l.s now have0 ((l.seen now rs).wish now sec have0 rs busy) }
def dueB (l : Lp) (now : Int) : Bool := !l.looked || (decide (l.last ≤ now) && decide (l.p.poll ≤ now - l.last))
def pauseE (n : Int) : Int := if n < -1 ∨ 50 < n then 1 else 0
def pauseL (l : Lp) (n : Int) : Lp := if n < -1 ∨ 50 < n then l else { l with pause := n }
def failsAt (l : Lp) (i : Int) : Int := if i < 0 ∨ (l.fails.length : Int) ≤ i then 0 else (l.fails[i.toNat]?).getD 0
structure Lp.ok (l : Lp) (j : Nat) : Prop where
  plan : planE l.p = 0
  fits : ∀ t ∈ l.p.trigs, t.fits
  st : l.s.ok j
  sl : l.s.last ≤ l.last
  last0 : 0 ≤ l.last
  last1 : l.last ≤ 1099511627776
  need0 : 0 ≤ l.needed
  need1 : l.needed ≤ l.last
  many : l.fails.length = l.p.trigs.length
  fail : ∀ f ∈ l.fails, 0 ≤ f ∧ f ≤ j
  paus : -1 ≤ l.pause ∧ l.pause ≤ 50
def newLp (p : Pln) : Lp := ⟨p, ⟨p.up.fix, p.down.fix, 0, [], []⟩, List.replicate p.trigs.length 0, false, 0, 0, -1⟩
end Go.Proofs.Ytcnoapogeohmkaa


namespace Go.Proofs.Ytcnoapogeohmkaa
open Go.RowKit
set_option linter.unusedVariables false
/-- a loop in memory: T the loop's type, TS and TM the Stable's and its marks'; S1 the loop's own blocks, S2 the Stable's -/
structure LopAt (T TS TM : TypeId) (S1 S2 : Nat → Prop) (w : World) (g gs : Nat) (vt vf vw vm : Value) (l : Lp) : Prop where
  head : Tide.At w g T #[.string l.p.name, .int .i64 l.p.mn, .int .i64 l.p.mx, .int .i64 l.p.poll, .int .i64 l.p.cool, .int .i64 l.p.tol, .int .i64 l.p.back, .int .i64 l.p.after, .int .i64 l.p.shift, .int .i64 l.p.up.win, .int .i64 l.p.up.pods, .int .i64 l.p.up.pct, .int .i64 l.p.up.per, .int .i64 l.p.down.win, .int .i64 l.p.down.pods, .int .i64 l.p.down.pct, .int .i64 l.p.down.per, vt, .pointer (some ⟨gs, 0, none⟩), vf, .bool l.looked, .int .i64 l.last, .int .i64 l.needed, .int .i64 l.pause]
  trg : Tide.OwnRow S1 w 65 17 vt l.p.trigs.length (l.p.trigs.flatMap Trg.enc)
  fls : Tide.OwnRow S1 w 3 1 vf l.fails.length (l.fails.map (Value.int .i64))
  st : StbAt TS TM S2 w gs l.s vw vm
  own : S1 g
  dis : ∀ b, S1 b → ¬ S2 b
  lim : ∀ b, S1 b → b < w.heap.size
section
variable {T TS TM : TypeId} {S1 S2 C : Nat → Prop} {w w' : World} {g gs : Nat} {vt vf vw vm : Value} {l : Lp}
theorem LopAt.chg (h : LopAt T TS TM S1 S2 w g gs vt vf vw vm l) (hc : Tide.Chg C w w') (h1 : ∀ b, S1 b → ¬ C b) (h2 : ∀ b, S2 b → ¬ C b) : LopAt T TS TM S1 S2 w' g gs vt vf vw vm l :=
  ⟨h.head.chg hc (h1 g h.own), h.trg.chg hc h1, h.fls.chg hc h1, h.st.chg hc h2, h.own, h.dis, fun b hb => Nat.lt_of_lt_of_le (h.lim b hb) hc.size⟩
theorem LopAt.below (h : LopAt T TS TM S1 S2 w g gs vt vf vw vm l) (hb : Below w.heap.size w w') : LopAt T TS TM S1 S2 w' g gs vt vf vw vm l :=
  h.chg (C := fun _ => False) (Tide.Chg.of_below hb (Nat.le_refl _)) (fun _ _ h => h) (fun _ _ h => h)
theorem LopAt.alloc (h : LopAt T TS TM S1 S2 w g gs vt vf vw vm l) (o : Obj) : LopAt T TS TM S1 S2 (w.alloc o) g gs vt vf vw vm l := h.chg (C := fun _ => False) ((Tide.Chg.refl _ w).alloc o) (fun _ _ h => h) (fun _ _ h => h)
theorem LopAt.drew (h : LopAt T TS TM S1 S2 w g gs vt vf vw vm l) : LopAt T TS TM S1 S2 w.drew g gs vt vf vw vm l := h.chg (C := fun _ => False) ((Tide.Chg.refl _ w).drew) (fun _ _ h => h) (fun _ _ h => h)
end
set_option maxRecDepth 100000 in
set_option maxHeartbeats 3200000 in
theorem lopLow (g : Nat) (l : Lp) (T : TypeId) (gs : Nat) (vt vf : Value) (now have0 : Int) (b : Bool) (w : World) (h : Tide.At w g T #[.string l.p.name, .int .i64 l.p.mn, .int .i64 l.p.mx, .int .i64 l.p.poll, .int .i64 l.p.cool, .int .i64 l.p.tol, .int .i64 l.p.back, .int .i64 l.p.after, .int .i64 l.p.shift, .int .i64 l.p.up.win, .int .i64 l.p.up.pods, .int .i64 l.p.up.pct, .int .i64 l.p.up.per, .int .i64 l.p.down.win, .int .i64 l.p.down.pods, .int .i64 l.p.down.pct, .int .i64 l.p.down.per, vt, .pointer (some ⟨gs, 0, none⟩), vf, .bool l.looked, .int .i64 l.last, .int .i64 l.needed, .int .i64 l.pause]) (n0 : 0 ≤ now) (n1 : now ≤ 1099511627776) (c0 : 0 ≤ l.p.cool) (c1 : l.p.cool ≤ 1000000) :
    Calls Try.prog 30 #[.pointer (some ⟨g, 0, none⟩), .int .i64 now, .int .i64 have0, .bool b] w fun e w' => e = .returned (.int .i64 (lowOf l.p l.needed now have0 b)) ∧ Below w.heap.size w w' := by
  have x1 := h.here (i := 1) rfl
  have x4 := h.here (i := 4) rfl
  have x22 := h.here (i := 22) rfl
  have q1 : IntKind.i64.wrap (now - l.p.cool) = now - l.p.cool := IntWalk.i64_in _ (by omega)
  have HV := Lib.hid (show lowOf l.p l.needed now have0 b = if b then max l.p.mn 1 else if now - l.p.cool < l.needed then max l.p.mn (min have0 1) else l.p.mn from rfl)
  have HB := Lib.hid (fun n => below_drewN (Below.refl w.heap.size w) n)
  have HBr := Lib.hid (Below.refl w.heap.size w)
  generalize lowOf l.p l.needed now have0 b = R at HV ⊢
  generalize l.p.mn = mn at x1 HV
  generalize l.p.cool = cool at x4 HV q1 c0 c1
  generalize l.needed = need at x22 HV
  clear h
  cases b
  case true =>
    obtain ⟨m, hm⟩ : ∃ m, max mn 1 = m := ⟨_, rfl⟩
    have E1 : (if mn < 1 then 1 else mn) = m := by rw [← hm]; split <;> omega
    have HF := Lib.hid (show R = m by rw [HV.out, ← hm]; rfl)
    clear hm
    go_enter Try.func30, Try.ntmps30
    go_wp2_with fail
    go_ret
    exact ⟨by rw [HF.out] <;> rfl, HBr.out⟩
  case false =>
    have HV2 := Lib.hid (show R = if now - cool < need then max mn (min have0 1) else mn from HV.out)
    by_cases ht : now - cool < need
    · have HF := Lib.hid (show R = max mn (min have0 1) by rw [HV2.out, if_pos ht])
      go_enter Try.func30, Try.ntmps30
      go_wp2_with fail
      go_quiet (fail)
      go_wp2_with fail
      all_goals
        go_ret
        exact ⟨ret_int (by rw [HF.out]; omega), HB.out _⟩
    · have HF := Lib.hid (show R = mn by rw [HV2.out, if_neg ht])
      have ht2 : need ≤ now - cool := by omega
      clear ht
      go_enter Try.func30, Try.ntmps30
      go_wp2_with fail
      go_quiet (fail)
      go_wp2_with fail
      go_ret
      exact ⟨by rw [HF.out] <;> rfl, HB.out _⟩
set_option maxRecDepth 100000 in
set_option maxHeartbeats 3200000 in
theorem lopFails (T : TypeId) (g gs : Nat) (vt : Value) (l : Lp) (S1 : Nat → Prop) (i : Int) (w : World) (vf : Value) (h : Tide.At w g T #[.string l.p.name, .int .i64 l.p.mn, .int .i64 l.p.mx, .int .i64 l.p.poll, .int .i64 l.p.cool, .int .i64 l.p.tol, .int .i64 l.p.back, .int .i64 l.p.after, .int .i64 l.p.shift, .int .i64 l.p.up.win, .int .i64 l.p.up.pods, .int .i64 l.p.up.pct, .int .i64 l.p.up.per, .int .i64 l.p.down.win, .int .i64 l.p.down.pods, .int .i64 l.p.down.pct, .int .i64 l.p.down.per, vt, .pointer (some ⟨gs, 0, none⟩), vf, .bool l.looked, .int .i64 l.last, .int .i64 l.needed, .int .i64 l.pause]) (hf : Tide.OwnRow S1 w 3 1 vf l.fails.length (l.fails.map (Value.int .i64))) (hl : l.fails.length ≤ 1000000) :
    Calls Try.prog 12 #[.pointer (some ⟨g, 0, none⟩), .int .i64 i] w fun e w' => e = .returned (.int .i64 (failsAt l i)) ∧ w = w' := by
  obtain ⟨A, cap, rfl, _, _, hc⟩ := hf.slice
  have x19 := h.here (i := 19) rfl
  by_cases h0 : i < 0
  · have HV := Lib.hid (show failsAt l i = 0 by unfold failsAt; rw [if_pos (.inl h0)])
    clear h hf hc
    go_enter Try.func12, Try.ntmps12
    go_wp2_with fail
    go_ret
    exact ⟨by rw [HV.out] <;> rfl, rfl⟩
  by_cases h1 : (l.fails.length : Int) ≤ i
  · have HV := Lib.hid (show failsAt l i = 0 by unfold failsAt; rw [if_pos (.inr h1)])
    have h2 : 0 ≤ i := by omega
    clear h hf hc h0
    go_enter Try.func12, Try.ntmps12
    go_wp2_with fail
    go_ret
    exact ⟨by rw [HV.out] <;> rfl, rfl⟩
  · obtain ⟨k, rfl⟩ := Int.eq_ofNat_of_zero_le (show 0 ≤ i by omega)
    have hk : k < l.fails.length := by omega
    obtain ⟨x, hx⟩ := Tide.get_some l.fails hk
    have HV := Lib.hid (show failsAt l (k : Int) = x by unfold failsAt; rw [if_neg (by omega)]; show (l.fails[(k : Int).toNat]?).getD 0 = x; rw [show (k : Int).toNat = k by omega, hx]; rfl)
    obtain ⟨b, rfl, _, hr⟩ := hc (by omega)
    have c0 : w.cell? ⟨b, k, none⟩ = some (.int .i64 x) := hr.cell (by rw [List.getElem?_map, hx]; rfl)
    have i0 : (0 : Int) ≤ (k : Int) := by omega
    have i1 : (k : Int) < (l.fails.length : Int) := by omega
    clear h hf hc h0 h1 hr hx hk
    go_enter Try.func12, Try.ntmps12
    go_wp2_with fail
    go_ret
    exact ⟨by rw [HV.out] <;> rfl, rfl⟩
set_option maxRecDepth 100000 in
set_option maxHeartbeats 3200000 in
theorem lopDue (T : TypeId) (g gs : Nat) (vt vf : Value) (l : Lp) (now : Int) (w : World) (h : Tide.At w g T #[.string l.p.name, .int .i64 l.p.mn, .int .i64 l.p.mx, .int .i64 l.p.poll, .int .i64 l.p.cool, .int .i64 l.p.tol, .int .i64 l.p.back, .int .i64 l.p.after, .int .i64 l.p.shift, .int .i64 l.p.up.win, .int .i64 l.p.up.pods, .int .i64 l.p.up.pct, .int .i64 l.p.up.per, .int .i64 l.p.down.win, .int .i64 l.p.down.pods, .int .i64 l.p.down.pct, .int .i64 l.p.down.per, vt, .pointer (some ⟨gs, 0, none⟩), vf, .bool l.looked, .int .i64 l.last, .int .i64 l.needed, .int .i64 l.pause]) (n0 : -9223372036854775808 ≤ now) (n1 : now ≤ 9223372036854775807) (l0 : 0 ≤ l.last) (l1 : l.last ≤ 1099511627776) :
    Calls Try.prog 19 #[.pointer (some ⟨g, 0, none⟩), .int .i64 now] w fun e w' => e = .returned (.bool (dueB l now)) ∧ Below w.heap.size w w' := by
  have x3 := h.here (i := 3) rfl
  have x20 := h.here (i := 20) rfl
  have x21 := h.here (i := 21) rfl
  have HV := Lib.hid (show dueB l now = (!l.looked || (decide (l.last ≤ now) && decide (l.p.poll ≤ now - l.last))) from rfl)
  have HB := Lib.hid (fun n => below_drewN (Below.refl w.heap.size w) n)
  generalize dueB l now = R at HV ⊢
  generalize l.looked = lk at x20 HV
  generalize l.last = la at x21 HV l0 l1
  generalize l.p.poll = po at x3 HV
  clear h
  cases lk
  case false =>
    have d0 : (!false) = true := rfl
    go_enter Try.func19, Try.ntmps19
    go_wp2_with fail
    go_quiet (fail)
    go_wp2_with fail
    go_ret
    exact ⟨by rw [HV.out] <;> rfl, HB.out _⟩
  case true =>
    by_cases h1 : la ≤ now
    · have q1 : IntKind.i64.wrap (now - la) = now - la := IntWalk.i64_in _ (by omega)
      have HF := Lib.hid (show R = decide (po ≤ now - la) by rw [HV.out, decide_eq_true h1]; rfl)
      clear HV
      go_enter Try.func19, Try.ntmps19
      go_wp2_with fail
      go_quiet (fail)
      go_wp2_with fail
      go_ret
      exact ⟨by rw [HF.out] <;> rfl, HB.out _⟩
    · have h2 : now < la := by omega
      have HF := Lib.hid (show R = false by rw [HV.out, decide_eq_false h1]; rfl)
      have d1 : decide (la ≤ now) = false := decide_eq_false h1
      clear HV h1
      go_enter Try.func19, Try.ntmps19
      go_wp2_with fail
      go_quiet (fail)
      go_wp2_with fail
      go_ret
      exact ⟨by rw [HF.out] <;> rfl, HB.out _⟩
end Go.Proofs.Ytcnoapogeohmkaa
