/- A loop and the reference's side by side; the walk of LoopPlays. -/
import Derived.Test.YtcnoapogeohmkaaWatE
import Derived.Test.YtcnoapogeohmkaaWatN
import Derived.Test.YtcnoapogeohmkaaLopK
import Derived.Test.YtcnoapogeohmkaaRplC
import Derived.Test.YtcnoapogeohmkaaZOpen
set_option linter.unusedVariables false
set_option linter.unusedSimpArgs false
namespace Go.Proofs.Ytcnoapogeohmkaa
open Go.RowKit
set_option linter.unusedVariables false
/-- a loop and the reference's, in blocks of the call's own, none of them top, apart from each other -/
structure BothLp (w0 w : World) (top gx gw gs gs' : Nat) (vt vx vf vw vm vf' vw' vm' : Value) (S1 S2 T1 T2 : Nat → Prop) (l m : Lp) : Prop where
  x : LopAt 73 94 96 S1 S2 w gx gs vx vf vw vm l
  r : WatAt (fun b => b < w0.heap.size) T1 T2 w gw gs' vt vf' vw' vm' m
  xb : ∀ b, S1 b ∨ S2 b → w0.heap.size ≤ b ∧ b ≠ top
  rb : ∀ b, T1 b ∨ T2 b → w0.heap.size ≤ b ∧ b ≠ top
  dis : ∀ b, S1 b ∨ S2 b → ¬ (T1 b ∨ T2 b)
  out : Below w0.heap.size w0 w
def BothL (w0 w : World) (top gx gw : Nat) (vt : Value) (l m : Lp) : Prop :=
  ∃ (gs gs' : Nat) (vx vf vw vm vf' vw' vm' : Value) (S1 S2 T1 T2 : Nat → Prop), BothLp w0 w top gx gw gs gs' vt vx vf vw vm vf' vw' vm' S1 S2 T1 T2 l m
section
variable {w0 w w' : World} {top gx gw : Nat} {vt : Value} {l m : Lp}
theorem BothL.below (h : BothL w0 w top gx gw vt l m) (hb : Below w.heap.size w w') : BothL w0 w' top gx gw vt l m := by
  obtain ⟨gs, gs', vx, vf, vw, vm, vf', vw', vm', S1, S2, T1, T2, h⟩ := h
  exact ⟨gs, gs', vx, vf, vw, vm, vf', vw', vm', S1, S2, T1, T2, h.x.below hb, h.r.below hb, h.xb, h.rb, h.dis, h.out.trans (hb.mono h.out.size)⟩
theorem BothL.outp (h : BothL w0 w top gx gw vt l m) : Below w0.heap.size w0 w := by obtain ⟨_, _, _, _, _, _, _, _, _, _, _, _, _, h⟩ := h; exact h.out
theorem BothL.alloc (h : BothL w0 w top gx gw vt l m) (o : Obj) : BothL w0 (w.alloc o) top gx gw vt l m := h.below ((Below.refl _ _).alloc (Nat.le_refl _) o)
theorem BothL.drew (h : BothL w0 w top gx gw vt l m) : BothL w0 w.drew top gx gw vt l m := h.below (Below.refl _ _).drew
theorem BothL.toTop (h : BothL w0 w top gx gw vt l m) {z : Nat} (hz : w.heap.size ≤ z) : BothL w0 w z gx gw vt l m := by
  obtain ⟨gs, gs', vx, vf, vw, vm, vf', vw', vm', S1, S2, T1, T2, h⟩ := h
  exact ⟨gs, gs', vx, vf, vw, vm, vf', vw', vm', S1, S2, T1, T2, h.x, h.r, fun b hb => ⟨(h.xb b hb).1, by have := hb.elim (h.x.lim b) (h.x.st.lim b); omega⟩, fun b hb => ⟨(h.rb b hb).1, by have := hb.elim (h.r.lim b) (h.r.st.lim b); omega⟩, h.dis, h.out⟩
end
theorem watLook (RT S1 S2 R : Nat → Prop) (g gs : Nat) (vt vf vw vm v : Value) (l : Lp) (now sec have0 : Int) (rs : List RdV) (busy : Bool) (j : Nat) (w : World) (h : WatAt RT S1 S2 w g gs vt vf vw vm l) (hr : RdsIn R w v rs)
    (hRS : ∀ b, R b → ¬ S1 b ∧ ¬ S2 b) (hRT : ∀ b, RT b → b < w.heap.size) (hl : l.ok j) (hj : j ≤ 90000) (hrl : rs.length ≤ 9223372036854775807) :
    Calls Try.prog 16 #[.pointer (some ⟨g, 0, none⟩), .int .i64 now, .int .i64 sec, .int .i64 have0, v, .bool busy] w (WatPost RT S1 S2 w g gs vt vf l now sec have0 (rs.map RdV.rd) busy) := by
  cases hok : lookOk l now sec have0 rs.length
  · exact watLookNo RT S1 S2 R g gs vt vf vw vm v l now sec have0 rs busy w h hr hRT hrl (planE_ok hl.plan).few hok
  · exact watLookYes RT S1 S2 R g gs vt vf vw vm v l now sec have0 rs busy j w h hr hRS hRT hl hj hok
theorem bothLook (w0 : World) (top : Nat) (R : Nat → Prop) (gx gw : Nat) (vt v : Value) (l m : Lp) (now sec have0 : Int) (rs : List RdV) (busy : Bool) (j : Nat) (w : World) (h : BothL w0 w top gx gw vt l m) (hr : RdsIn R w v rs) (hR : ∀ b, R b → b < w0.heap.size) (hz0 : top < w.heap.size) (hl : l.ok j) (hj : j ≤ 90000) (hrl : rs.length ≤ 9223372036854775807) :
    Calls Try.prog 10 #[.pointer (some ⟨gx, 0, none⟩), .int .i64 now, .int .i64 sec, .int .i64 have0, v, .bool busy] w fun e w' => e = .returned (.tuple #[.int .i64 (lookN l now sec have0 (rs.map RdV.rd) busy), .int .i64 (lookE l now sec have0 (rs.map RdV.rd).length)]) ∧ BothL w0 w' top gx gw vt (lookL l now sec have0 (rs.map RdV.rd) busy) m ∧ Tide.Chg (fun b => w0.heap.size ≤ b ∧ b ≠ top) w w' := by
  obtain ⟨gs, gs', vx, vf, vw, vm, vf', vw', vm', S1, S2, T1, T2, h⟩ := h
  refine (lopLook S1 S2 R gx gs vx vf vw vm v l now sec have0 rs busy j w h.x hr (fun b hb => ⟨fun hs => by have := h.xb b (.inl hs); have := hR b hb; omega, fun hs => by have := h.xb b (.inr hs); have := hR b hb; omega⟩) hl hj hrl).mono ?_
  rintro e w' ⟨he, ⟨vwn, vmn, h4⟩, hc⟩
  have hz := hc.size
  refine ⟨he, ⟨gs, gs', vx, vf, vwn, vmn, vf', vw', vm', S1, _, T1, T2, h4, h.r.chg hc (fun b hb hs => by have := h.xb b hs; omega) (fun b hb hs => h.dis b hs (.inl hb)) (fun b hb hs => h.dis b hs (.inr hb)), fun b hb => ?_, h.rb, fun b hb ht => ?_, ?_⟩, hc.mono fun b _ hb => h.xb b hb⟩
  · rcases hb with hb | hb | hb
    · exact h.xb b (.inl hb)
    · exact h.xb b (.inr hb)
    · have := h.out.size; exact ⟨by omega, by omega⟩
  · rcases hb with hb | hb | hb
    · exact h.dis b (.inl hb) ht
    · exact h.dis b (.inr hb) ht
    · have := ht.elim (h.r.lim b) (h.r.st.lim b); omega
  · exact h.out.trans (hc.below h.out.size (fun b hb hs => by have := h.xb b hs; omega))
theorem bothWatch (w0 : World) (top : Nat) (R : Nat → Prop) (gx gw : Nat) (vt v : Value) (l m : Lp) (now sec have0 : Int) (rs : List RdV) (busy : Bool) (j : Nat) (w : World) (h : BothL w0 w top gx gw vt l m) (hr : RdsIn R w v rs) (hR : ∀ b, R b → b < w0.heap.size) (hz0 : top < w.heap.size) (hl : m.ok j) (hj : j ≤ 90000) (hrl : rs.length ≤ 9223372036854775807) :
    Calls Try.prog 16 #[.pointer (some ⟨gw, 0, none⟩), .int .i64 now, .int .i64 sec, .int .i64 have0, v, .bool busy] w fun e w' => e = .returned (.tuple #[.int .i64 (lookN m now sec have0 (rs.map RdV.rd) busy), .int .i64 (lookE m now sec have0 (rs.map RdV.rd).length)]) ∧ BothL w0 w' top gx gw vt l (lookL m now sec have0 (rs.map RdV.rd) busy) ∧ Tide.Chg (fun b => w0.heap.size ≤ b ∧ b ≠ top) w w' := by
  obtain ⟨gs, gs', vx, vf, vw, vm, vf', vw', vm', S1, S2, T1, T2, h⟩ := h
  refine (watLook (fun b => b < w0.heap.size) T1 T2 R gw gs' vt vf' vw' vm' v m now sec have0 rs busy j w h.r hr (fun b hb => ⟨fun hs => by have := h.rb b (.inl hs); have := hR b hb; omega, fun hs => by have := h.rb b (.inr hs); have := hR b hb; omega⟩) (fun b hb => Nat.lt_of_lt_of_le hb h.out.size) hl hj hrl).mono ?_
  rintro e w' ⟨he, ⟨vwn, vmn, h4⟩, hc⟩
  have hz := hc.size
  refine ⟨he, ⟨gs, gs', vx, vf, vw, vm, vf', vwn, vmn, S1, S2, T1, _, h.x.chg hc (fun b hb hs => h.dis b (.inl hb) hs) (fun b hb hs => h.dis b (.inr hb) hs), h4, h.xb, fun b hb => ?_, fun b hb ht => ?_, ?_⟩, hc.mono fun b _ hb => h.rb b hb⟩
  · rcases hb with hb | hb | hb
    · exact h.rb b (.inl hb)
    · exact h.rb b (.inr hb)
    · have := h.out.size; exact ⟨by omega, by omega⟩
  · rcases ht with ht | ht | ht
    · exact h.dis b hb (.inl ht)
    · exact h.dis b hb (.inr ht)
    · have := hb.elim (h.x.lim b) (h.x.st.lim b); omega
  · exact h.out.trans (hc.below h.out.size (fun b hb hs => by have := h.rb b hs; omega))
theorem bothPause (w0 : World) (top gx gw : Nat) (vt : Value) (l m : Lp) (n : Int) (w : World) (h : BothL w0 w top gx gw vt l m) :
    Calls Try.prog 18 #[.pointer (some ⟨gx, 0, none⟩), .int .i64 n] w fun e w' => e = .returned (.int .i64 (pauseE n)) ∧ BothL w0 w' top gx gw vt (pauseL l n) m ∧ Tide.Chg (fun b => w0.heap.size ≤ b ∧ b ≠ top) w w' := by
  obtain ⟨gs, gs', vx, vf, vw, vm, vf', vw', vm', S1, S2, T1, T2, h⟩ := h
  refine (lopPause S1 S2 gx gs vx vf vw vm l n w h.x).mono ?_
  rintro e w' ⟨he, h4, hc⟩
  have hz := hc.size
  refine ⟨he, ⟨gs, gs', vx, vf, vw, vm, vf', vw', vm', S1, S2, T1, T2, h4, h.r.chg hc (fun b hb hs => by have := h.xb b (.inl hs); omega) (fun b hb hs => h.dis b (.inl hs) (.inl hb)) (fun b hb hs => h.dis b (.inl hs) (.inr hb)), h.xb, h.rb, h.dis, ?_⟩, hc.mono fun b _ hb => h.xb b (.inl hb)⟩
  exact h.out.trans (hc.below h.out.size (fun b hb hs => by have := h.xb b (.inl hs); omega))
/-- the reference's pause is set -/
theorem BothL.put {w0 w : World} {top gx gw : Nat} {vt : Value} {l m : Lp} (h : BothL w0 w top gx gw vt l m) (n : Int) : BothL w0 (w.setCell ⟨gw, 23, none⟩ (.int .i64 n)) top gx gw vt l { m with pause := n } := by
  obtain ⟨gs, gs', vx, vf, vw, vm, vf', vw', vm', S1, S2, T1, T2, h⟩ := h
  have hch := (Tide.Chg.refl (fun b => b = gw) w).put (p := ⟨gw, 23, none⟩) (.inl rfl) (.int .i64 n)
  exact ⟨gs, gs', vx, vf, vw, vm, vf', vw', vm', S1, S2, T1, T2, h.x.chg hch (fun b hb e => h.dis b (.inl hb) (.inl (e ▸ h.r.own))) (fun b hb e => h.dis b (.inr hb) (.inl (e ▸ h.r.own))), h.r.put rfl rfl rfl rfl, h.xb, h.rb, h.dis, h.out.setCell (p := ⟨gw, 23, none⟩) (h.rb gw (.inl h.r.own)).1 _⟩
theorem bothDue (w0 : World) (top gx gw : Nat) (vt : Value) (l m : Lp) (now : Int) (j : Nat) (w : World) (h : BothL w0 w top gx gw vt l m) (hl : l.ok j) (n0 : -9223372036854775808 ≤ now) (n1 : now ≤ 9223372036854775807) :
    Calls Try.prog 19 #[.pointer (some ⟨gx, 0, none⟩), .int .i64 now] w fun e w' => e = .returned (.bool (dueB l now)) ∧ Below w.heap.size w w' := by
  obtain ⟨gs, gs', vx, vf, vw, vm, vf', vw', vm', S1, S2, T1, T2, h⟩ := h
  exact lopDue _ gx gs vx vf l now w h.x.head n0 n1 hl.last0 hl.last1
theorem bothDueW (w0 : World) (top gx gw : Nat) (vt : Value) (l m : Lp) (now : Int) (j : Nat) (w : World) (h : BothL w0 w top gx gw vt l m) (hl : m.ok j) (n0 : -9223372036854775808 ≤ now) (n1 : now ≤ 9223372036854775807) :
    Calls Try.prog 20 #[.pointer (some ⟨gw, 0, none⟩), .int .i64 now] w fun e w' => e = .returned (.bool (dueB m now)) ∧ Below w.heap.size w w' := by
  obtain ⟨gs, gs', vx, vf, vw, vm, vf', vw', vm', S1, S2, T1, T2, h⟩ := h
  exact watDue gw gs' vt vf' m now w h.r.head n0 n1 hl.last0 hl.last1 (by have := (planE_ok hl.plan).poll; omega)
theorem bothFails (w0 : World) (top gx gw : Nat) (vt : Value) (l m : Lp) (i : Int) (j : Nat) (w : World) (h : BothL w0 w top gx gw vt l m) (hl : l.ok j) :
    Calls Try.prog 12 #[.pointer (some ⟨gx, 0, none⟩), .int .i64 i] w fun e w' => e = .returned (.int .i64 (failsAt l i)) ∧ w = w' := by
  obtain ⟨gs, gs', vx, vf, vw, vm, vf', vw', vm', S1, S2, T1, T2, h⟩ := h
  exact lopFails _ gx gs vx l S1 i w vf h.x.head h.x.fls (by have := hl.many; have := (planE_ok hl.plan).few; omega)
/-- what the failures of the reference read -/
theorem BothL.fails {w0 w : World} {top gx gw : Nat} {vt : Value} {l m : Lp} (h : BothL w0 w top gx gw vt l m) :
    ∃ A cap, w.cell? ⟨gw, 19, none⟩ = some (.slice A m.fails.length cap) ∧ (0 < m.fails.length → ∃ b, A = some ⟨b, 0, none⟩ ∧ ∀ (i : Nat) (x : Int), m.fails[i]? = some x → w.cell? ⟨b, i, none⟩ = some (.int .i64 x)) := by
  obtain ⟨gs, gs', vx, vf, vw, vm, vf', vw', vm', S1, S2, T1, T2, h⟩ := h
  obtain ⟨A, cap, rfl, _, _, hc⟩ := h.r.fls.slice
  refine ⟨A, cap, h.r.head.here rfl, fun h0 => ?_⟩
  obtain ⟨b, rfl, _, hr⟩ := hc h0
  exact ⟨b, rfl, fun i x hi => hr.cell (by rw [List.getElem?_map, hi]; rfl)⟩
def GlC (m : GlV) : Array Value := #[.int .i64 m.kind, .int .i64 m.now, .int .i64 m.sec, .int .i64 m.have0, .int .i64 m.n, .slice m.A m.rs.length m.cap, .bool m.busy]
/-- between two glances -/
def PlayAt (w0 w : World) (gx gw : Nat) (vt : Value) (k : Nat) : Prop := ∃ z l, BothL w0 w z gx gw vt l l ∧ l.ok k
theorem both_made {w0 w2 w3 : World} {gx : Nat} {p : Pln} {vt : Value} {e : Ending} {gs : Nat} {vx vf vw vm : Value} {S1 S2 : Nat → Prop} (hx : LopAt 73 94 96 S1 S2 w2 gx gs vx vf vw vm (newLp p)) (h1 : ∀ b, S1 b → w0.heap.size ≤ b) (h2 : ∀ b, S2 b → w0.heap.size ≤ b)
    (hb2 : Below w0.heap.size w0 w2) (h : NewWatPost (fun b => b < w0.heap.size) w2 p vt e w3) : ∃ gw, e = .returned (.pointer (some ⟨gw, 0, none⟩)) ∧ BothL w0 w3 w3.heap.size gx gw vt (newLp p) (newLp p) := by
  obtain ⟨gw, gs', vf', T1, T2, rfl, hw, t1, t2, hb3⟩ := h
  have hz := hb2.size
  have hz3 := hb3.size
  refine ⟨gw, rfl, gs, gs', vx, vf, vw, vm, vf', _, _, S1, S2, T1, T2, hx.below hb3, hw, fun b hb => ⟨hb.elim (h1 b) (h2 b), ?_⟩, fun b hb => ⟨?_, ?_⟩, fun b hb ht => ?_, hb2.trans (hb3.mono hz)⟩
  · have := hb.elim (hx.lim b) (hx.st.lim b); omega
  · have := hb.elim (t1 b) (t2 b); omega
  · have := hb.elim (hw.lim b) (hw.st.lim b); omega
  · have := hb.elim (hx.lim b) (hx.st.lim b); have := ht.elim (t1 b) (t2 b); omega
theorem refInT (n lo hi : Int) (w : World) (h0 : lo ≤ n) (h1 : n ≤ hi) : Calls Try.prog 17 #[.int .i64 n, .int .i64 lo, .int .i64 hi] w fun e w' => e = .returned (.bool true) ∧ w' = w := (refIn_yes n lo hi w h0 h1).mono fun _ _ h => ⟨h.1, h.2.symm⟩
theorem refInF (n lo hi : Int) (w : World) (h : n < lo ∨ hi < n) : Calls Try.prog 17 #[.int .i64 n, .int .i64 lo, .int .i64 hi] w fun e w' => e = .returned (.bool false) ∧ w' = w := (refIn_no n lo hi w h).mono fun _ _ h => ⟨h.1, h.2.symm⟩
theorem refPlanV (p : Pln) (A : Option Addr) (cap : Nat) (w : World) (ht : Tide.ListIn w 17 Trg.enc (.slice A p.trigs.length cap) p.trigs) (hf : ∀ t ∈ p.trigs, t.fits) (hn : p.name.size ≤ 9223372036854775807) (hl : p.trigs.length ≤ 9223372036854775807) :
    Calls Try.prog 14 #[plnV p (.slice A p.trigs.length cap)] w fun e w' => e = .returned (.int .i64 (planE p)) ∧ Below w.heap.size w w' := by
  obtain ⟨name, mn, mx, poll, cool, tol, back, after, shift, ⟨u0, u1, u2, u3⟩, ⟨d0, d1, d2, d3⟩, ts⟩ := p
  exact refPlan name mn mx poll cool tol back after shift u0 u1 u2 u3 d0 d1 d2 d3 A cap ts w ht hf hn hl
set_option maxRecDepth 100000 in
set_option maxHeartbeats 12800000 in
theorem loopPlays_walk (p : Pln) (A : Option Addr) (cap : Nat) (w : World) (hft : ∀ t ∈ p.trigs, t.fits) (hnm : p.name.size ≤ 9223372036854775807) (hli : Tide.ListIn w 17 Trg.enc (.slice A p.trigs.length cap) p.trigs) (hpl : p.trigs.length ≤ 9223372036854775807)
    (A1 : Option Addr) (cap1 : Nat) (gl : List GlV) (hg : Tide.ListIn w 7 GlV.enc (.slice A1 gl.length cap1) gl) (hq : ∀ m ∈ gl, m.right w) (hgl : gl.length ≤ 9223372036854775807) :
    Calls Try.prog 5 #[plnV p (.slice A p.trigs.length cap), .slice A1 gl.length cap1] w fun e w' => e = .returned (.bool true) ∧ Below w.heap.size w w' := by
  have HLi := Lib.hid hli; have HGl := Lib.hid hg; have HQ := Lib.hid hq; have HFt := Lib.hid hft
  have HNm := Lib.hid hnm; have HPl := Lib.hid hpl
  have HTi := Lib.hid (TrgIn.of hli)
  have HA := Lib.hid (Tide.At.made w 26 (plnC p (.slice A p.trigs.length cap)))
  have HB := Lib.hid ((Below.refl w.heap.size w).alloc (Nat.le_refl _) (.cells (plnC p (.slice A p.trigs.length cap)) 26))
  clear hli hg hq hft hnm hpl
  unfold plnV
  go_enter Try.func5, Try.ntmps5
  go_upto_region 1 with fail
  change Code.wp Try.prog _ _ _ (w.alloc (.cells (plnC p (.slice A p.trigs.length cap)) 26))
  generalize w.alloc (.cells (plnC p (.slice A p.trigs.length cap)) 26) = W at HA HB ⊢
  go_wp2_with (refine wpList_load_row rfl 26 (.tmp 2) rfl w.heap.size rfl 26 _ (0, 0) _ HA.out Try.underlying26 rfl (by kernel_rfl) ?_)
  by_cases hE : planE p = 0
  · refine (lopNewYes p A cap W (HLi.out.below HB.out (Nat.le_refl _)) HFt.out HNm.out HPl.out hE).mono ?_
    rintro e w2 ⟨gx, gs, vx, vf, S1, S2, rfl, hx, h1, h2, hb2⟩
    have HX2 := Lib.hid hx
    have HS1 := Lib.hid (fun b (hb : S1 b) => Nat.le_trans HB.out.size (h1 b hb)); have HS2 := Lib.hid (fun b (hb : S2 b) => Nat.le_trans HB.out.size (h2 b hb))
    have HB2 := Lib.hid (HB.out.trans (hb2.mono HB.out.size))
    have HA2 := Lib.hid (HA.out.below hb2 HA.out.inside)
    clear hx h1 h2 hb2 HA HB
    as_aux_lemma =>
    go_wp2_with (refine wpList_load_row rfl 26 (.tmp 2) rfl w.heap.size rfl 26 _ (0, 0) _ HA2.out Try.underlying26 rfl (by kernel_rfl) ?_)
    refine (refPlanV p A cap w2 (HLi.out.below HB2.out (Nat.le_refl _)) HFt.out HNm.out HPl.out).mono ?_
    rintro e w3 ⟨rfl, hb3⟩
    rw [hE]
    have HX3 := Lib.hid (HX2.out.below hb3)
    have HB3 := Lib.hid (HB2.out.trans (hb3.mono HB2.out.size))
    have HA3 := Lib.hid (HA2.out.below hb3 HA2.out.inside)
    clear hb3 HX2 HB2 HA2
    by_cases hl : 60 < gl.length
    · have hl2 : (60 : Int) < (gl.length : Int) := by omega
      clear hE
      go_wp2_with fail
      go_ret
      exact ⟨rfl, HB3.out⟩
    · have hl2 : (gl.length : Int) ≤ 60 := by omega
      have HE := Lib.hid hE
      clear hE
      as_aux_lemma =>
      go_wp2_with (refine wpList_load_row rfl 26 (.tmp 2) rfl w.heap.size rfl 26 _ (0, 0) _ HA3.out Try.underlying26 rfl (by kernel_rfl) ?_)
      refine (watNew (fun b => b < w.heap.size) p A cap w3 (HTi.out.chg (C := fun _ => False) (Tide.Chg.of_below HB3.out (Nat.le_refl _)) (fun _ _ h => h)) (fun b hb => Nat.lt_of_lt_of_le hb HB3.out.size) HE.out).mono ?_
      intro e w4 h4
      obtain ⟨gw, rfl, hBL⟩ := both_made HX3.out HS1.out HS2.out HB3.out h4
      have HP0 := Lib.hid (show PlayAt w w4 gx gw (.slice A p.trigs.length cap) 0 from ⟨_, _, hBL, newLp_ok HE.out HFt.out⟩)
      clear hBL h4 HX3 HB3 HA3
      as_aux_lemma =>
      go_wp2_with fail
      go_loopw [45] (fun i wr => ∃ k : Nat, k ≤ gl.length ∧ i = .int .i64 k ∧ Hid (PlayAt w wr gx gw (.slice A p.trigs.length cap) k)) (fun i _ => gl.length - (intOf i).toNat)
      case atStart => exact ⟨0, Nat.zero_le _, rfl, HP0⟩
      case round =>
        obtain ⟨k, hk, rfl, HK⟩ := hrel
        obtain ⟨z0, l, hBL, hok⟩ := HK.out
        have HBk := Lib.hid hBL.outp
        by_cases hlt : k < gl.length
        · obtain ⟨m, hm⟩ := Tide.get_some gl hlt
          obtain ⟨A9, c9, e9, hA9⟩ := HGl.out
          obtain ⟨rfl, _, rfl⟩ := slice_eq e9
          obtain ⟨b, off, rfl, hbl, hc⟩ := hA9 (by omega)
          have cl : ∀ (j : Nat) (u : Value), m.enc[j]? = some u → wr.cell? ⟨b, off + k * 7 + j, none⟩ = some u := fun j u hu => (HBk.out.cell (p := ⟨b, off + k * 7 + j, none⟩) hbl).trans (hc k m j u hm hu)
          have c0 : wr.cell? ⟨b, off + k * 7, none⟩ = some (.int .i64 m.kind) := cl 0 _ rfl
          have c1 : wr.cell? ⟨b, off + k * 7 + 1, none⟩ = some (.int .i64 m.now) := cl 1 _ rfl
          have c2 : wr.cell? ⟨b, off + k * 7 + 2, none⟩ = some (.int .i64 m.sec) := cl 2 _ rfl
          have c3 : wr.cell? ⟨b, off + k * 7 + 3, none⟩ = some (.int .i64 m.have0) := cl 3 _ rfl
          have c4 : wr.cell? ⟨b, off + k * 7 + 4, none⟩ = some (.int .i64 m.n) := cl 4 _ rfl
          have c5 : wr.cell? ⟨b, off + k * 7 + 5, none⟩ = some (.slice m.A m.rs.length m.cap) := cl 5 _ rfl
          have c6 : wr.cell? ⟨b, off + k * 7 + 6, none⟩ = some (.bool m.busy) := cl 6 _ rfl
          have k0 : (0 : Int) ≤ (k : Int) := by omega
          have k1 : (k : Int) < (gl.length : Int) := by omega
          have hkk : k ≤ 60 := by omega
          have HMr := Lib.hid (HQ.out m (List.mem_of_getElem? hm))
          have HX := Lib.hid (Tide.At.made wr 50 (GlC m))
          have HR := Lib.hid ((hBL.toTop (Nat.le_refl _)).alloc (.cells (GlC m) 50))
          have HOk := Lib.hid hok
          obtain ⟨top, htop⟩ : ∃ top, wr.heap.size = top := ⟨_, rfl⟩
          clear hBL hok HK HP0 hm hA9 hbl hc cl e9
          go_upto_region 11 with fail
          change Code.wp Try.prog _ _ _ (wr.alloc (.cells (GlC m) 50))
          clear c0 c1 c2 c3 c4 c5 c6
          generalize wr.alloc (.cells (GlC m) 50) = W5 at HX HR ⊢
          rw [htop] at HX HR
          have HBk5 := Lib.hid HR.out.outp
          clear htop HBk
          have x0 : W5.cell? ⟨top, 0, none⟩ = some (.int .i64 m.kind) := HX.out.here rfl
          as_aux_lemma =>
          go_upto_block 2 with fail
          go_cut [11] (fun s wx => s = .bool true ∧ ∃ l', Hid (BothL w wx top gx gw (.slice A p.trigs.length cap) l' l') ∧ Hid (l'.ok (k + 1)) ∧ Hid (Tide.At wx top 50 (GlC m)))
          case first =>
            by_cases h0 : m.kind = 0
            · have q0 : (m.kind == 0) = true := by simp [h0]
              have x1 : W5.cell? ⟨top, 1, none⟩ = some (.int .i64 m.now) := HX.out.here rfl
              have x2 : W5.cell? ⟨top, 2, none⟩ = some (.int .i64 m.sec) := HX.out.here rfl
              have x3 : W5.cell? ⟨top, 3, none⟩ = some (.int .i64 m.have0) := HX.out.here rfl
              have x5 : W5.cell? ⟨top, 5, none⟩ = some (.slice m.A m.rs.length m.cap) := HX.out.here rfl
              have x6 : W5.cell? ⟨top, 6, none⟩ = some (.bool m.busy) := HX.out.here rfl
              have HRd := Lib.hid (HMr.out.rds.chg (C := fun _ => False) (Tide.Chg.of_below (B := w.heap.size) HBk5.out (Nat.le_refl _)) (fun _ _ h => h))
              clear h0
              go_wp2_with fail
              refine (bothLook w top (fun b => b < w.heap.size) gx gw _ _ l l m.now m.sec m.have0 m.rs m.busy k W5 HR.out HRd.out (fun b hb => hb) HX.out.inside HOk.out (by omega) HMr.out.len).mono ?_
              rintro e w7 ⟨rfl, hb7, hc7⟩
              have HX7 := Lib.hid (HX.out.chg hc7 (fun h => h.2 rfl))
              have HB7 := Lib.hid hb7
              have HRd7 := Lib.hid (HMr.out.rds.chg (C := fun _ => False) (Tide.Chg.of_below (B := w.heap.size) HB7.out.outp (Nat.le_refl _)) (fun _ _ h => h))
              clear hb7 hc7 x0 x1 x2 x3 x5 x6 HX HR HRd
              have x1 : w7.cell? ⟨top, 1, none⟩ = some (.int .i64 m.now) := HX7.out.here rfl
              have x2 : w7.cell? ⟨top, 2, none⟩ = some (.int .i64 m.sec) := HX7.out.here rfl
              have x3 : w7.cell? ⟨top, 3, none⟩ = some (.int .i64 m.have0) := HX7.out.here rfl
              have x5 : w7.cell? ⟨top, 5, none⟩ = some (.slice m.A m.rs.length m.cap) := HX7.out.here rfl
              have x6 : w7.cell? ⟨top, 6, none⟩ = some (.bool m.busy) := HX7.out.here rfl
              have HW2 := Lib.hid (bothWatch w top (fun b => b < w.heap.size) gx gw _ _ _ l m.now m.sec m.have0 m.rs m.busy k w7 HB7.out HRd7.out (fun b hb => hb) HX7.out.inside HOk.out (by omega) HMr.out.len)
              have HOk8 := Lib.hid (look_ok (now := m.now) (sec := m.sec) (have0 := m.have0) (rs := m.rs.map RdV.rd) (busy := m.busy) HOk.out)
              obtain ⟨N, hN⟩ : ∃ N, lookN l m.now m.sec m.have0 (m.rs.map RdV.rd) m.busy = N := ⟨_, rfl⟩
              obtain ⟨E, hE⟩ : ∃ E, lookE l m.now m.sec m.have0 (m.rs.map RdV.rd).length = E := ⟨_, rfl⟩
              rw [hN, hE] at HW2
              rw [hN, hE]
              clear hN hE
              have qn : (N == N) = true := by simp
              have qe : (E == E) = true := by simp
              go_wp2_with fail
              refine HW2.out.mono ?_
              rintro e w8 ⟨rfl, hb8, hc8⟩
              have HX8 := Lib.hid (HX7.out.chg hc8 (fun h => h.2 rfl))
              have HB8 := Lib.hid hb8
              clear hb8 hc8 x1 x2 x3 x5 x6 HX7 HB7 HRd7 HW2
              go_wp2_with fail
              go_meet
              exact ⟨rfl, _, HB8, HOk8, HX8⟩
            · have q0 : (m.kind == 0) = false := by simpa using h0
              clear h0
              by_cases h1 : m.kind = 1
              · have q1 : (m.kind == 1) = true := by simp [h1]
                have x4 : W5.cell? ⟨top, 4, none⟩ = some (.int .i64 m.n) := HX.out.here rfl
                clear h1
                go_wp2_with fail
                by_cases hn : -1 ≤ m.n ∧ m.n ≤ 50
                · refine (refIn_yes m.n (-1) 50 _ hn.1 hn.2).mono ?_
                  rintro e wa ⟨rfl, rfl⟩
                  have HR6 := Lib.hid (HR.out.put m.n)
                  have HX6 := Lib.hid (HX.out.chg ((Tide.Chg.refl (fun b => b = gw) W5).put (p := ⟨gw, 23, none⟩) (.inl rfl) (.int .i64 m.n)) (fun e => by
                    obtain ⟨_, _, _, _, _, _, _, _, _, _, _, _, _, h⟩ := HR.out
                    exact (h.rb gw (.inl h.r.own)).2 e.symm))
                  have HOk6 := Lib.hid (Lp.ok_up (pause_ok HOk.out m.n))
                  have HPa := Lib.hid (show pauseE m.n = 0 by unfold pauseE; rw [if_neg (by omega)])
                  have HPl2 := Lib.hid (show pauseL l m.n = { l with pause := m.n } by unfold pauseL; rw [if_neg (by omega)])
                  have x23 : W5.cell? ⟨gw, 23, none⟩ = some (.int .i64 l.pause) := by
                    obtain ⟨_, _, _, _, _, _, _, _, _, _, _, _, _, h⟩ := HR.out
                    exact h.r.head.here rfl
                  have p23 : W5.frozen? ⟨gw, 23, none⟩ = false := by
                    obtain ⟨_, _, _, _, _, _, _, _, _, _, _, _, _, h⟩ := HR.out
                    exact h.r.head.soft 23
                  rw [HPl2.out] at HOk6
                  go_upto_region 20 with fail
                  go_cut [16] (fun s wx => s = .int .i64 0 ∧ Hid (BothL w wx top gx gw (.slice A p.trigs.length cap) l { l with pause := m.n }) ∧ Hid (Tide.At wx top 50 (GlC m)))
                  case first =>
                    go_region
                    all_goals
                      go_wp2_with fail
                      go_meet
                      exact ⟨rfl, Lib.hid HR6.out.drew, Lib.hid HX6.out.drew⟩
                  case rest =>
                    obtain ⟨rfl, HR7, HX7⟩ := hcut
                    clear HR6 HX6 x0 x4 p23 x23 HR HX
                    have y4 : wc.cell? ⟨top, 4, none⟩ = some (.int .i64 m.n) := HX7.out.here rfl
                    go_wp2_with fail
                    refine (bothPause w top gx gw _ l _ m.n _ HR7.out).mono ?_
                    rintro e w8 ⟨rfl, hb8, hc8⟩
                    rw [HPa.out]
                    rw [HPl2.out] at hb8
                    have HX8 := Lib.hid (HX7.out.chg hc8 (fun h => h.2 rfl))
                    have HB8 := Lib.hid hb8
                    clear hb8 hc8 y4
                    go_wp2_with fail
                    go_meet
                    exact ⟨rfl, _, HB8, HOk6, HX8⟩
                · refine (refIn_no m.n (-1) 50 _ (by omega)).mono ?_
                  rintro e wa ⟨rfl, rfl⟩
                  have HPa := Lib.hid (show pauseE m.n = 1 by unfold pauseE; rw [if_pos (by omega)])
                  have HPl2 := Lib.hid (show pauseL l m.n = l by unfold pauseL; rw [if_pos (by omega)])
                  clear hn
                  go_wp2_with fail
                  refine (bothPause w top gx gw _ l _ m.n _ HR.out).mono ?_
                  rintro e w8 ⟨rfl, hb8, hc8⟩
                  rw [HPa.out]
                  rw [HPl2.out] at hb8
                  have HX8 := Lib.hid (HX.out.chg hc8 (fun h => h.2 rfl))
                  have HB8 := Lib.hid hb8
                  clear hb8 hc8 x4 x0
                  go_wp2_with fail
                  go_meet
                  exact ⟨rfl, _, HB8, Lib.hid (Lp.ok_up HOk.out), HX8⟩
              · have q1 : (m.kind == 1) = false := by simpa using h1
                clear h1
                by_cases h2 : m.kind = 2
                · have q2 : (m.kind == 2) = true := by simp [h2]
                  have n0 := HMr.out.now.1; have n1 := HMr.out.now.2
                  have HD1 := Lib.hid (fun (W : World) (h : BothL w W top gx gw (.slice A p.trigs.length cap) l l) => bothDue w top gx gw _ l l m.now k W h HOk.out n0 n1)
                  have HD2 := Lib.hid (fun (W : World) (h : BothL w W top gx gw (.slice A p.trigs.length cap) l l) => bothDueW w top gx gw _ l l m.now k W h HOk.out n0 n1)
                  have HR5 := Lib.hid HR.out.drew
                  have HX5 := Lib.hid HX.out.drew
                  have x1 : W5.drew.cell? ⟨top, 1, none⟩ = some (.int .i64 m.now) := HX5.out.here rfl
                  generalize dueB l m.now = D at HD1 HD2
                  have qd : (D == D) = true := by simp
                  clear h2 n0 n1
                  go_upto_region 23 with fail
                  go_region_held3 (fun w' => w'.cell? ⟨top, 1, none⟩ = some (.int .i64 m.now)) (first | exact x1 | exact y1 | exact z1 | go_keep) (first | (go_at_call 19; refine (HD1.out _ HR5.out).mono ?_; rintro e w6 ⟨rfl, hb6⟩; have HR6 := Lib.hid (HR5.out.below hb6); have HX6 := Lib.hid (HX5.out.below hb6 HX5.out.inside); clear hb6; have y1 : w6.cell? ⟨top, 1, none⟩ = some (.int .i64 m.now) := HX6.out.here rfl) | (go_at_call 20; refine (HD2.out _ HR6.out).mono ?_; rintro e w7 ⟨rfl, hb7⟩; have HR7 := Lib.hid (HR6.out.below hb7); have HX7 := Lib.hid (HX6.out.below hb7 HX6.out.inside); clear hb7; have z1 : w7.cell? ⟨top, 1, none⟩ = some (.int .i64 m.now) := HX7.out.here rfl))
                  all_goals
                    go_wp2_with fail
                    go_meet
                    exact ⟨rfl, _, HR7, Lib.hid (Lp.ok_up HOk.out), HX7⟩
                · have q2 : (m.kind == 2) = false := by simpa using h2
                  clear h2
                  go_wp2_with fail
                  go_meet
                  exact ⟨rfl, _, HR, Lib.hid (Lp.ok_up HOk.out), HX⟩
          case rest =>
            obtain ⟨rfl, l2, HR2, HOk2, HX2⟩ := hcut
            clear HR HX HOk x0 HBk5
            rename World => W6
            obtain ⟨Af, cf, x19, hAf⟩ := HR2.out.fails
            have y4 : W6.cell? ⟨top, 4, none⟩ = some (.int .i64 m.n) := HX2.out.here rfl
            have hfl : (l2.fails.length : Int) ≤ 5 := by have := HOk2.out.many; have := (planE_ok HOk2.out.plan).few; omega
            have qw : IntKind.i64.wrap ((l2.fails.length : Int) - 1) = (l2.fails.length : Int) - 1 := IntWalk.i64_in _ (by omega)
            have HFa := Lib.hid (fun (W : World) (hW : BothL w W top gx gw (.slice A p.trigs.length cap) l2 l2) => bothFails w top gx gw _ l2 l2 m.n (k + 1) W hW HOk2.out)
            obtain ⟨nn, hnn⟩ : ∃ nn, m.n = nn := ⟨_, rfl⟩
            rw [hnn] at y4 HFa
            obtain ⟨fa, hfa⟩ : ∃ fa, failsAt l2 nn = fa := ⟨_, rfl⟩
            rw [hfa] at HFa
            have qf : (fa != fa) = false := by simp
            have HOe := Lib.hid HOk2.out
            clear hnn HX2 HOk2 HMr
            by_cases hn : 0 ≤ nn ∧ nn ≤ (l2.fails.length : Int) - 1
            · obtain ⟨i, rfl⟩ := Int.eq_ofNat_of_zero_le hn.1
              have hil : i < l2.fails.length := by omega
              obtain ⟨bq, rfl, hcell⟩ := hAf (by omega)
              obtain ⟨x, hx⟩ := Tide.get_some l2.fails hil
              have hxf : x = fa := by
                rw [← hfa]; unfold failsAt
                rw [if_neg (by omega)]
                show x = (l2.fails[(i : Int).toNat]?).getD 0
                rw [show (i : Int).toNat = i by omega, hx]; rfl
              subst hxf
              have cx : W6.cell? ⟨bq, i, none⟩ = some (.int .i64 x) := hcell i x hx
              have i0 : (0 : Int) ≤ (i : Int) := by omega
              have i1 : (i : Int) < (l2.fails.length : Int) := by omega
              have HIn := Lib.hid (fun (W : World) => refInT (i : Int) 0 ((l2.fails.length : Int) - 1) W hn.1 hn.2)
              clear hn hil hcell hx hAf hfa
              go_wp2_with fail
              go_quiet ((go_at_call 17; exact Calls.quiet_of_same (HIn.out _)))
              go_wp2_with fail
              go_quiet (fail)
              go_wp2_with fail
              refine (HFa.out _ (HR2.out.below (by first | exact below_drewN (below_drewN (Below.refl _ _) _) _ | exact below_drewN (Below.refl _ _) _))).mono ?_
              rintro e wz ⟨rfl, rfl⟩
              go_wp2_with fail
              go_roundw
              case rel => exact ⟨k + 1, by omega, by go_num, Lib.hid ⟨_, _, HR2.out.below (by first | exact below_drewN (below_drewN (Below.refl _ _) _) _ | exact below_drewN (Below.refl _ _) _), HOe.out⟩⟩
              case measure => simp [intOf]; omega
            · have hxf : fa = 0 := by
                rw [← hfa]; unfold failsAt
                rw [if_pos (by omega)]
              subst hxf
              have HIn := Lib.hid (fun (W : World) => refInF nn 0 ((l2.fails.length : Int) - 1) W (by omega))
              clear hn hAf hfa
              go_wp2_with fail
              go_quiet ((go_at_call 17; exact Calls.quiet_of_same (HIn.out _)))
              go_wp2_with fail
              refine (HFa.out _ (HR2.out.below (by first | exact below_drewN (Below.refl _ _) _ | exact Below.refl _ _))).mono ?_
              rintro e wz ⟨rfl, rfl⟩
              go_wp2_with fail
              go_roundw
              case rel => exact ⟨k + 1, by omega, by go_num, Lib.hid ⟨_, _, HR2.out.below (by first | exact below_drewN (Below.refl _ _) _ | exact Below.refl _ _), HOe.out⟩⟩
              case measure => simp [intOf]; omega
        · have HBe := Lib.hid HBk.out
          clear HK hBL hok HP0 HBk
          go_wp2_with fail
          go_ret
          exact ⟨rfl, HBe.out⟩
  · refine (lopNewNo p A cap W (HLi.out.below HB.out (Nat.le_refl _)) HFt.out HNm.out HPl.out hE).mono ?_
    rintro e w2 ⟨rfl, hb2⟩
    have HB2 := Lib.hid (HB.out.trans (hb2.mono HB.out.size))
    have HA2 := Lib.hid (HA.out.below hb2 HA.out.inside)
    clear hb2 HA HB
    go_wp2_with (refine wpList_load_row rfl 26 (.tmp 2) rfl w.heap.size rfl 26 _ (0, 0) _ HA2.out Try.underlying26 rfl (by kernel_rfl) ?_)
    refine (refPlanV p A cap w2 (HLi.out.below HB2.out (Nat.le_refl _)) HFt.out HNm.out HPl.out).mono ?_
    rintro e w3 ⟨rfl, hb3⟩
    have HB3 := Lib.hid (HB2.out.trans (hb3.mono HB2.out.size))
    have qe : (planE p != 0) = true := by simpa using hE
    have qe2 : (planE p == 0) = false := by simpa using hE
    generalize planE p = E at qe qe2 ⊢
    have qq : (E == E) = true := by simp
    clear hb3 hE HA2
    go_wp2_with fail
    go_ret
    exact ⟨rfl, HB3.out⟩
end Go.Proofs.Ytcnoapogeohmkaa
