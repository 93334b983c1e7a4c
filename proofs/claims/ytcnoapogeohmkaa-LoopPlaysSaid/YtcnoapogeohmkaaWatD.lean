/- What is known inside of the reference's Look. -/
import Derived.Test.YtcnoapogeohmkaaWatC
import Derived.Test.YtcnoapogeohmkaaLopG
set_option linter.unusedVariables false
set_option linter.unusedSimpArgs false
namespace Go.Proofs.Ytcnoapogeohmkaa
open Go.RowKit
set_option linter.unusedVariables false
def WatPost (RT S1 S2 : Nat → Prop) (w : World) (g gs : Nat) (vt vf : Value) (l : Lp) (now sec have0 : Int) (rs : List Rd) (busy : Bool) (e : Ending) (w' : World) : Prop :=
  e = .returned (.tuple #[.int .i64 (lookN l now sec have0 rs busy), .int .i64 (lookE l now sec have0 rs.length)]) ∧ (∃ vw vm, WatAt RT S1 (Tide.Plus S2 w w') w' g gs vt vf vw vm (lookL l now sec have0 rs busy)) ∧ Tide.Chg (fun b => S1 b ∨ S2 b) w w'
/-- the loop, the readings, what may turn -/
structure Wk (RT S1 S2 R : Nat → Prop) (w wx : World) (g gs : Nat) (vt vf vw vm : Value) (l : Lp) (v : Value) (rs : List RdV) : Prop where
  wat : WatAt RT S1 S2 wx g gs vt vf vw vm l
  rds : RdsIn R wx v rs
  chg : Tide.Chg S1 w wx
  one : ∀ b, S1 b → b < w.heap.size
  two : ∀ b, S2 b → b < w.heap.size
  read : ∀ b, R b → ¬ S1 b ∧ ¬ S2 b
  rtl : ∀ b, RT b → b < w.heap.size
section
variable {RT S1 S2 R : Nat → Prop} {w wx wy : World} {g gs : Nat} {vt vf vw vm : Value} {l : Lp} {v : Value} {rs : List RdV}
theorem Wk.below (h : Wk RT S1 S2 R w wx g gs vt vf vw vm l v rs) (hb : Below wx.heap.size wx wy) : Wk RT S1 S2 R w wy g gs vt vf vw vm l v rs :=
  ⟨h.wat.below hb, h.rds.below hb, h.chg.step_below hb h.chg.size, h.one, h.two, h.read, h.rtl⟩
theorem Wk.alloc (h : Wk RT S1 S2 R w wx g gs vt vf vw vm l v rs) (o : Obj) : Wk RT S1 S2 R w (wx.alloc o) g gs vt vf vw vm l v rs := h.below ((Below.refl _ _).alloc (Nat.le_refl _) o)
theorem Wk.drew (h : Wk RT S1 S2 R w wx g gs vt vf vw vm l v rs) : Wk RT S1 S2 R w wx.drew g gs vt vf vw vm l v rs := h.below (Below.refl _ _).drew
theorem Wk.drewN (h : Wk RT S1 S2 R w wx g gs vt vf vw vm l v rs) (n : Nat) : Wk RT S1 S2 R w (wx.drewN n) g gs vt vf vw vm l v rs := h.below (below_drewN (Below.refl _ _) n)
theorem Wk.put (h : Wk RT S1 S2 R w wx g gs vt vf vw vm l v rs) {l' : Lp} {i : Nat} {u : Value} (hp : l'.p.trigs = l.p.trigs) (hf : l'.fails = l.fails) (hs : l'.s = l.s)
    (hc : (lopCells l gs vt vf).setIfInBounds i u = lopCells l' gs vt vf) : Wk RT S1 S2 R w (wx.setCell ⟨g, i, none⟩ u) g gs vt vf vw vm l' v rs :=
  ⟨h.wat.put hp hf hs hc,
    h.rds.chg ((Tide.Chg.refl (fun b => b = g) wx).put (p := ⟨g, i, none⟩) (.inl rfl) u) (fun b hb e => (h.read b hb).1 (e ▸ h.wat.own)), h.chg.put (.inl h.wat.own) u, h.one, h.two, h.read, h.rtl⟩
theorem Wk.fail (h : Wk RT S1 S2 R w wx g gs vt vf vw vm l v rs) {k bf cf : Nat} {x : Int} (hv : vf = .slice (some ⟨bf, 0, none⟩) l.fails.length cf) (hk : k < l.fails.length) :
    Wk RT S1 S2 R w (wx.setCell ⟨bf, k, none⟩ (.int .i64 x)) g gs vt vf vw vm { l with fails := l.fails.set k x } v rs := by
  have hb : S1 bf := (h.wat.fls.block bf (by rw [hv]; rfl)).1
  exact ⟨h.wat.fail hv hk,
    h.rds.chg ((Tide.Chg.refl (fun b => b = bf) wx).put (p := ⟨bf, k, none⟩) (.inl rfl) _) (fun b hb2 e => (h.read b hb2).1 (e ▸ hb)), h.chg.put (.inl hb) _, h.one, h.two, h.read, h.rtl⟩
end
theorem wat_no {RT S1 S2 : Nat → Prop} {w : World} {g gs : Nat} {vt vf vw vm : Value} {l : Lp} {now sec have0 : Int} {rs : List Rd} {busy : Bool} (h : WatAt RT S1 S2 w g gs vt vf vw vm l) (hr : ∀ b, RT b → b < w.heap.size) (hn : lookOk l now sec have0 rs.length = false) (w' : World) (hb : Below w.heap.size w w') :
    WatPost RT S1 S2 w g gs vt vf l now sec have0 rs busy (.returned (.tuple #[.int .i64 0, .int .i64 1])) w' := by
  refine ⟨by unfold lookN lookE; rw [if_pos hn, if_pos hn], ⟨vw, vm, ?_⟩, Tide.Chg.of_below hb (Nat.le_refl _)⟩
  unfold lookL; rw [if_pos hn]
  exact (h.below hb).up h.lim hr
theorem wat_pause {RT S1 S2 : Nat → Prop} {w wx : World} {g gs : Nat} {vt vf vw vm : Value} {l : Lp} {now sec have0 : Int} {rs : List Rd} {busy : Bool} (hn : lookOk l now sec have0 rs.length = true) (hp : 0 ≤ l.pause) (h : WatAt RT S1 S2 wx g gs vt vf vw vm (l.seen now rs)) (hc : Tide.Chg S1 w wx) (h0 : ∀ b, S1 b → b < w.heap.size) (hr : ∀ b, RT b → b < w.heap.size) (w' : World) (hb : Below wx.heap.size wx w') :
    WatPost RT S1 S2 w g gs vt vf l now sec have0 rs busy (.returned (.tuple #[.int .i64 l.pause, .int .i64 0])) w' := by
  refine ⟨by unfold lookN lookE; rw [hn]; simp [hp], ⟨vw, vm, ?_⟩, (hc.step_below hb hc.size).mono fun _ _ h => .inl h⟩
  unfold lookL; rw [hn, if_neg (by simp), if_pos hp]
  exact (h.below hb).up h0 hr
theorem wat_end {RT S1 S2 : Nat → Prop} {w w1 w2 w' : World} {g gs : Nat} {vt vf vw vm vw' vm' : Value} {l M : Lp} {now sec have0 x y : Int} {rs : List Rd} {busy : Bool} (hn : lookOk l now sec have0 rs.length = true) (hp : l.pause < 0)
    (hM : (l.seen now rs).marked now ((l.seen now rs).told sec have0 rs busy).2 = M) (hx : (l.seen now rs).wish now sec have0 rs busy = x) (hy : clipOf (lowOf M.p M.needed now have0 ((l.seen now rs).told sec have0 rs busy).2) M.p.mx (Tide.settleN M.s now have0 x) = y)
    (h : WatAt RT S1 S2 w1 g gs vt vf vw vm M) (hc : Tide.Chg S1 w w1) (h0 : ∀ b, S1 b → b < w.heap.size) (hr : ∀ b, RT b → b < w.heap.size)
    (hs : StbAt 103 113 (Tide.Plus S2 w1 w2) w2 gs (Tide.settleS M.s now have0 x) vw' vm') (hc2 : Tide.Chg S2 w1 w2) (hb : Below w2.heap.size w2 w') :
    WatPost RT S1 S2 w g gs vt vf l now sec have0 rs busy (.returned (.tuple #[.int .i64 y, .int .i64 0])) w' := by
  obtain ⟨e1, e2, e3⟩ := look_fine (busy := busy) hn hp
  have ep : M.p = l.p := by rw [← hM]; cases ((l.seen now rs).told sec have0 rs busy).2 <;> rfl
  have es : M.s = l.s := by rw [← hM]; cases ((l.seen now rs).told sec have0 rs busy).2 <;> rfl
  have z1 := hc.size; have z2 := hc2.size; have z3 := hb.size
  refine ⟨?_, ⟨vw', vm', ?_⟩, ?_⟩
  · rw [e1, e2, hM, hx, ← hy, ep, es]
  · rw [e3, hM, hx, ← es]
    have hd : ∀ b, S1 b → ¬ Tide.Plus S2 w w' b := fun b hb1 h2 => by
      rcases h2 with h2 | h2
      · exact h.dis b hb1 h2
      · have := h0 b hb1; omega
    have hd2 : ∀ b, RT b → ¬ Tide.Plus S2 w w' b := fun b hb1 h2 => by
      rcases h2 with h2 | h2
      · exact (h.rt b hb1).2 h2
      · have := hr b hb1; omega
    have hl : ∀ b, Tide.Plus S2 w w' b → b < w'.heap.size := fun b h2 => by
      rcases h2 with h2 | h2
      · have := h.st.lim b h2; omega
      · exact h2.2
    have hbc : Tide.Chg (fun _ => False) w2 w' := Tide.Chg.of_below hb (Nat.le_refl _)
    refine ⟨(h.head.chg hc2 (h.dis g h.own)).below hb (by have := h.head.inside; omega), (h.trg.chg hc2 (fun b hb1 => (h.rt b hb1).2)).chg hbc (fun _ _ h => h), (h.fls.chg hc2 h.dis).below hb (Nat.le_refl _), (hs.below hb).mono (fun b hlt hb2 => ?_) hl, h.own, hd, fun b hb1 => by have := h0 b hb1; omega, fun b hb1 => ⟨(h.rt b hb1).1, hd2 b hb1⟩⟩
    rcases hb2 with hb2 | hb2
    · exact .inl hb2
    · exact .inr ⟨by omega, hlt⟩
  · refine ((hc.mono fun _ _ h => Or.inl h).trans ?_).step_below hb (by omega)
    exact hc2.mono fun _ _ h => Or.inr h
theorem told_step {L : Lp} {sec have0 : Int} {rs : List RdV} {busy : Bool} {k : Nat} {t : Trg} {r : RdV} {f : Int} {P N : Int} {B C : Bool} (ht : L.p.trigs[k]? = some t) (hr : rs[k]? = some r) (hf : L.fails[k]? = some f) (h : toldK L sec have0 (rs.map RdV.rd) busy k = (P, B)) (hN : oneT L.p t f r.rd sec have0 = (N, C)) :
    toldK L sec have0 (rs.map RdV.rd) busy (k + 1) = (max P N, B || C) := by
  have hT := allT_snoc (p := L.p) (sec := sec) (have0 := have0) (x := (0, busy)) ht (show (rs.map RdV.rd)[k]? = some r.rd by rw [List.getElem?_map, hr]; rfl) hf
  have hT2 : toldK L sec have0 (rs.map RdV.rd) busy (k + 1) = (max (toldK L sec have0 (rs.map RdV.rd) busy k).1 (oneT L.p t f r.rd sec have0).1, (toldK L sec have0 (rs.map RdV.rd) busy k).2 || (oneT L.p t f r.rd sec have0).2) := hT
  rw [h, hN] at hT2
  exact hT2
end Go.Proofs.Ytcnoapogeohmkaa
