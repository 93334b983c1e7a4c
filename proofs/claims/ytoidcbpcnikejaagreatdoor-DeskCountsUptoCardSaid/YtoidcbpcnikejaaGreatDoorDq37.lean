/- Parts of this claim: WldA, WldB, WldC, WldD, LopK. -/
import Derived.Test.YtoidcbpcnikejaaGreatDoorDqLopG
import Derived.Test.YtoidcbpcnikejaaGreatDoorDqLopI
import Derived.Test.YtoidcbpcnikejaaGreatDoorDqQueE
import Derived.Test.YtoidcbpcnikejaaGreatDoorDq13
import Derived.Test.YtoidcbpcnikejaaGreatDoorDq28
set_option linter.unusedVariables false
set_option linter.unusedSimpArgs false
set_option maxRecDepth 100000
set_option maxHeartbeats 12800000
namespace Go.Proofs.YtoidcbpcnikejaaGreatDoor
open Go.RowKit
structure Wp where
 g : Nat
 gl : Nat
 gt : Nat
 gq : Nat
 gf : Nat
 gb : Nat
 vt : Value
 vf : Value
structure Wg where
 gs : Nat
 gp : Nat
 lt : Value
 lf : Value
 lw : Value
 lm : Value
 vq : Value
 vp : Value
 vb : Value
 P : Nat → Nat
theorem LopAt.mono {T TS TM : TypeId} {S1 S2 S1' S2' : Nat → Prop} {w : World} {g gs : Nat} {vt vf vw vm : Value} {l : Lp} (h : LopAt T TS TM S1 S2 w g gs vt vf vw vm l) (h1 : ∀ b, b < w.heap.size → S1 b → S1' b) (h2 : ∀ b, b < w.heap.size → S2 b → S2' b)
  (l1 : ∀ b, S1' b → b < w.heap.size) (l2 : ∀ b, S2' b → b < w.heap.size) (hd : ∀ b, S1' b → ¬ S2' b) : LopAt T TS TM S1' S2' w g gs vt vf vw vm l :=
 ⟨h.head, h.trg.mono h1, h.fls.mono h1, h.st.mono h2 l2, h1 g h.head.inside h.own, hd, l1⟩
structure WoIn (w : World) (p : Wp) (a : Wg) (m : Wo) : Prop where
 head : G.At w p.g 164 #[.pointer (some ⟨p.gl, 0, none⟩), .pointer (some ⟨p.gt, 0, none⟩), .pointer (some ⟨p.gq, 0, none⟩), .pointer (some ⟨p.gf, 0, none⟩), .pointer (some ⟨p.gb, 0, none⟩), p.vt, p.vf, .int .i64 m.sec, .int .i64 m.now, .int .i64 m.target]
 trg : G.OwnRow (fun b => a.P b = 1) w 171 17 p.vt m.l.p.trigs.length (m.l.p.trigs.flatMap Trg.enc)
 fls : G.OwnRow (fun b => a.P b = 1) w 4 1 p.vf m.fails.length (m.fails.map Value.bool)
 lp : LopAt 219 257 290 (fun b => a.P b = 2) (fun b => a.P b = 3) w p.gl a.gs a.lt a.lf a.lw a.lm m.l
 tp : TopicAt w p.gt a.gp m.t
 tp1 : a.P p.gt = 4
 tp2 : a.P a.gp = 4
 qu : QAt 225 (fun b => a.P b = 5) w p.gq a.vq m.q m.ql
 fl : FAt 227 (fun b => a.P b = 6) w p.gf a.vp m.f m.fl m.most
 bu : BAt 229 (fun b => a.P b = 7) w p.gb a.vb m.b
 own : a.P p.g = 1
 lim : ∀ b, a.P b ≠ 0 → b < w.heap.size
def paint (P : Nat → Nat) (i : Nat) (w w' : World) : Nat → Nat := fun b => if w.heap.size ≤ b ∧ b < w'.heap.size then i else P b
section
variable {w w' : World} {p : Wp} {a : Wg} {m : Wo} {C R : Nat → Prop} {i j : Nat}
theorem paint_old {P : Nat → Nat} {b : Nat} (h : b < w.heap.size) : paint P i w w' b = P b := by unfold paint; rw [if_neg (by omega)]
theorem paint_plus {P : Nat → Nat} (hl : ∀ b, P b ≠ 0 → b < w.heap.size) (hi : i ≠ 0) {b : Nat} (h : G.Plus (fun b => P b = i) w w' b) : paint P i w w' b = i := by
 unfold paint
 rcases h with h | h
 ·rw [if_neg (by have := hl b (by omega); omega)]; exact h
 rw [if_pos h]
theorem paint_lim {P : Nat → Nat} (hl : ∀ b, P b ≠ 0 → b < w.heap.size) (hz : w.heap.size ≤ w'.heap.size) {b : Nat} (h : paint P i w w' b ≠ 0) : b < w'.heap.size := by
 unfold paint at h
 split at h
 ·omega
 have := hl b h; omega
theorem paint_lt {P : Nat → Nat} (hl : ∀ b, P b ≠ 0 → b < w.heap.size) (hz : w.heap.size ≤ w'.heap.size) (hj : j ≠ 0) {b : Nat} (h : paint P i w w' b = j) : b < w'.heap.size := paint_lim (i := i) hl hz (by omega)
theorem paint_ne {P : Nat → Nat} (hl : ∀ b, P b ≠ 0 → b < w.heap.size) (hj : j ≠ 0) {b : Nat} (hb : b < w'.heap.size) (h : P b = j) : paint P i w w' b = j := by
 rw [paint_old (hl b (by omega))]; exact h
theorem WoIn.keep1 (h : WoIn w p a m) (i : Nat) (hc : G.Chg C w w') (hC : ∀ b, a.P b = 1 → ¬ C b) : G.At w' p.g 164 #[.pointer (some ⟨p.gl, 0, none⟩), .pointer (some ⟨p.gt, 0, none⟩), .pointer (some ⟨p.gq, 0, none⟩), .pointer (some ⟨p.gf, 0, none⟩), .pointer (some ⟨p.gb, 0, none⟩), p.vt, p.vf, .int .i64 m.sec, .int .i64 m.now, .int .i64 m.target]
  ∧ G.OwnRow (fun b => paint a.P i w w' b = 1) w' 171 17 p.vt m.l.p.trigs.length (m.l.p.trigs.flatMap Trg.enc) ∧ G.OwnRow (fun b => paint a.P i w w' b = 1) w' 4 1 p.vf m.fails.length (m.fails.map Value.bool) ∧ paint a.P i w w' p.g = 1 :=
 ⟨h.head.chg hc (hC _ h.own), (h.trg.chg hc hC).mono (fun b hb e => paint_ne h.lim (by omega) hb e), (h.fls.chg hc hC).mono (fun b hb e => paint_ne h.lim (by omega) hb e), (paint_old h.head.inside).trans h.own⟩
theorem WoIn.keep2 (h : WoIn w p a m) (i : Nat) (hc : G.Chg C w w') (h2 : ∀ b, a.P b = 2 → ¬ C b) (h3 : ∀ b, a.P b = 3 → ¬ C b) : LopAt 219 257 290 (fun b => paint a.P i w w' b = 2) (fun b => paint a.P i w w' b = 3) w' p.gl a.gs a.lt a.lf a.lw a.lm m.l :=
 (h.lp.chg hc h2 h3).mono (fun b hb e => paint_ne h.lim (by omega) hb e) (fun b hb e => paint_ne h.lim (by omega) hb e) (fun b e => paint_lt h.lim hc.size (by omega) e) (fun b e => paint_lt h.lim hc.size (by omega) e) (fun b (e1 : paint _ _ _ _ b = 2) (e2 : paint _ _ _ _ b = 3) => by omega)
theorem WoIn.keep4 (h : WoIn w p a m) (i : Nat) (hc : G.Chg C w w') (hC : ∀ b, a.P b = 4 → ¬ C b) : TopicAt w' p.gt a.gp m.t := h.tp.chg hc (hC _ h.tp1) (hC _ h.tp2)
theorem WoIn.keep4a (h : WoIn w p a m) (i : Nat) (w' : World) : paint a.P i w w' p.gt = 4 ∧ paint a.P i w w' a.gp = 4 := ⟨(paint_old h.tp.head.inside).trans h.tp1, (paint_old h.tp.parts.inside).trans h.tp2⟩
theorem WoIn.keep5 (h : WoIn w p a m) (i : Nat) (hc : G.Chg C w w') (hC : ∀ b, a.P b = 5 → ¬ C b) : QAt 225 (fun b => paint a.P i w w' b = 5) w' p.gq a.vq m.q m.ql :=
 (h.qu.chg hc hC).mono (fun b hb e => paint_ne h.lim (by omega) hb e) (fun b e => paint_lt h.lim hc.size (by omega) e)
theorem WoIn.keep6 (h : WoIn w p a m) (i : Nat) (hc : G.Chg C w w') (hC : ∀ b, a.P b = 6 → ¬ C b) : FAt 227 (fun b => paint a.P i w w' b = 6) w' p.gf a.vp m.f m.fl m.most :=
 (h.fl.chg hc hC).mono (fun b hb e => paint_ne h.lim (by omega) hb e) (fun b e => paint_lt h.lim hc.size (by omega) e)
theorem WoIn.keep7 (h : WoIn w p a m) (i : Nat) (hc : G.Chg C w w') (hC : ∀ b, a.P b = 7 → ¬ C b) : BAt 229 (fun b => paint a.P i w w' b = 7) w' p.gb a.vb m.b :=
 (h.bu.chg hc hC).mono (fun b hb e => paint_ne h.lim (by omega) hb e) (fun b e => paint_lt h.lim hc.size (by omega) e)
def WoN (R : Nat → Prop) (w : World) (p : Wp) (m : Wo) : Prop := ∃ a, WoIn w p a m ∧ ∀ b, R b → a.P b = 0 ∧ b < w.heap.size
def WoC (R : Nat → Prop) (w w' : World) (p : Wp) (m : Wo) : Prop := WoN R w' p m ∧ G.Chg (fun b => ¬ R b) w w'
theorem WoN.next {a' : Wg} {m' : Wo} (hR : ∀ b, R b → a.P b = 0 ∧ b < w.heap.size) (h' : WoIn w' p a' m') (i : Nat) (hP : a'.P = paint a.P i w w') (hi : G.Chg C w w') (hC : ∀ b, C b → a.P b ≠ 0) : WoC R w w' p m' :=
 ⟨⟨a', h', fun b hb => ⟨by rw [hP, paint_old (hR b hb).2]; exact (hR b hb).1, Nat.lt_of_lt_of_le (hR b hb).2 hi.size⟩⟩, hi.mono fun b _ hc hR' => hC b hc (hR b hR').1⟩
theorem WoN.mono {R' : Nat → Prop} (h : WoN R w p m) (hs : ∀ b, R' b → R b) : WoN R' w p m := by
 obtain ⟨a, ha, hR⟩ := h
 exact ⟨a, ha, fun b hb => hR b (hs b hb)⟩
theorem WoN.grow (h : WoN R w p m) (hc : G.Chg C w w') (hC : ∀ b, C b → R b) : WoN (fun b => R b ∨ (w.heap.size ≤ b ∧ b < w'.heap.size)) w' p m := by
 obtain ⟨a, ha, hR⟩ := h
 have hn : ∀ k, k ≠ 0 → ∀ b, a.P b = k → ¬ C b := fun k hk b hb hcb => by have := (hR b (hC b hcb)).1; omega
 obtain ⟨k1, k2, k3, k4⟩ := ha.keep1 0 hc (hn 1 (by omega))
 obtain ⟨k5, k6⟩ := ha.keep4a 0 w'
 have hz := hc.size
 refine ⟨{ a with P := paint a.P 0 w w' }, ⟨k1, k2, k3, ha.keep2 0 hc (hn 2 (by omega)) (hn 3 (by omega)), ha.keep4 0 hc (hn 4 (by omega)), k5, k6, ha.keep5 0 hc (hn 5 (by omega)), ha.keep6 0 hc (hn 6 (by omega)), ha.keep7 0 hc (hn 7 (by omega)), k4, fun b hb => paint_lim ha.lim hc.size hb⟩, fun b hb => ?_⟩
 rcases hb with hb | hb
 ·exact ⟨(paint_old (hR b hb).2).trans (hR b hb).1, Nat.lt_of_lt_of_le (hR b hb).2 hz⟩
 exact ⟨by show paint a.P 0 w w' b = 0; unfold paint; rw [if_pos hb], hb.2⟩
theorem WoN.chg (h : WoN R w p m) (hc : G.Chg (fun _ => False) w w') : WoN R w' p m := (h.grow hc (fun _ h => h.elim)).mono fun _ h => .inl h
theorem WoN.lt (h : WoN R w p m) {b : Nat} (hb : R b) : b < w.heap.size := by obtain ⟨a, ha, hR⟩ := h; exact (hR b hb).2
theorem WoC.refl (h : WoN R w p m) : WoC R w w p m := ⟨h, G.Chg.refl _ _⟩
theorem WoC.trans {w1 w2 : World} {m' : Wo} (h : G.Chg (fun b => ¬ R b) w w1) (k : WoC R w1 w2 p m') : WoC R w w2 p m' := ⟨k.1, h.trans k.2⟩
theorem WoC.below {w1 : World} (h : WoC R w w1 p m) (hb : Below w1.heap.size w1 w') : WoC R w w' p m := ⟨h.1.chg (G.Chg.of_below hb (Nat.le_refl _)), h.2.trans (G.Chg.of_below hb (Nat.le_refl _))⟩
theorem At.kept {g : Nat} {T : TypeId} {cs : Array Value} (h : G.At w g T cs) (hc : G.Chg (fun b => ¬ R b) w w') (hR : R g) : G.At w' g T cs := h.chg hc (fun k => k hR)
theorem WoN.below (h : WoN R w p m) (hb : Below w.heap.size w w') : WoN R w' p m := h.chg (G.Chg.of_below hb (Nat.le_refl _))
theorem WoN.alloc (h : WoN R w p m) (o : Obj) : WoN R (w.alloc o) p m := h.chg ((G.Chg.refl _ w).alloc o)
theorem WoN.drew (h : WoN R w p m) : WoN R w.drew p m := h.chg (G.Chg.refl _ w).drew
theorem WoN.at (h : WoN R w p m) : G.At w p.g 164 #[.pointer (some ⟨p.gl, 0, none⟩), .pointer (some ⟨p.gt, 0, none⟩), .pointer (some ⟨p.gq, 0, none⟩), .pointer (some ⟨p.gf, 0, none⟩), .pointer (some ⟨p.gb, 0, none⟩), p.vt, p.vf, .int .i64 m.sec, .int .i64 m.now, .int .i64 m.target] := by obtain ⟨a, ha, _⟩ := h; exact ha.head
theorem WoN.queue {q' : List G.Msg} {ql' : Int} {v' : Value} (ha : WoIn w p a m) (hR : ∀ b, R b → a.P b = 0 ∧ b < w.heap.size) (hq : QAt 225 (G.Plus (fun b => a.P b = 5) w w') w' p.gq v' q' ql') (hc : G.Chg (fun b => a.P b = 5) w w') : WoC R w w' p { m with q := q', ql := ql' } := by
 obtain ⟨k1, k2, k3, k4⟩ := ha.keep1 5 hc (fun _ _ _ => by omega)
 obtain ⟨k5, k6⟩ := ha.keep4a 5 w'
 exact WoN.next hR (a' := { a with vq := v', P := paint a.P 5 w w' }) ⟨k1, k2, k3, ha.keep2 5 hc (fun _ _ _ => by omega) (fun _ _ _ => by omega), ha.keep4 5 hc (fun _ _ _ => by omega), k5, k6, hq.mono (fun b _ hb => paint_plus ha.lim (by omega) hb) (fun b e => paint_lt ha.lim hc.size (by omega) e), ha.keep6 5 hc (fun _ _ _ => by omega), ha.keep7 5 hc (fun _ _ _ => by omega), k4, fun b hb => paint_lim ha.lim hc.size hb⟩ 5 rfl hc (fun _ h => by omega)
theorem WoN.fleet {f' : List G.Pod} {fl' : Int} {v' : Value} (ha : WoIn w p a m) (hR : ∀ b, R b → a.P b = 0 ∧ b < w.heap.size) (hq : FAt 227 (G.Plus (fun b => a.P b = 6) w w') w' p.gf v' f' fl' m.most) (hc : G.Chg (fun b => a.P b = 6) w w') : WoC R w w' p { m with f := f', fl := fl' } := by
 obtain ⟨k1, k2, k3, k4⟩ := ha.keep1 6 hc (fun _ _ _ => by omega)
 obtain ⟨k5, k6⟩ := ha.keep4a 6 w'
 exact WoN.next hR (a' := { a with vp := v', P := paint a.P 6 w w' }) ⟨k1, k2, k3, ha.keep2 6 hc (fun _ _ _ => by omega) (fun _ _ _ => by omega), ha.keep4 6 hc (fun _ _ _ => by omega), k5, k6, ha.keep5 6 hc (fun _ _ _ => by omega), hq.mono (fun b _ hb => paint_plus ha.lim (by omega) hb) (fun b e => paint_lt ha.lim hc.size (by omega) e), ha.keep7 6 hc (fun _ _ _ => by omega), k4, fun b hb => paint_lim ha.lim hc.size hb⟩ 6 rfl hc (fun _ h => by omega)
theorem WoN.buffer {b' : List G.Req} {v' : Value} (ha : WoIn w p a m) (hR : ∀ b, R b → a.P b = 0 ∧ b < w.heap.size) (hq : BAt 229 (G.Plus (fun b => a.P b = 7) w w') w' p.gb v' b') (hc : G.Chg (fun b => a.P b = 7) w w') : WoC R w w' p { m with b := b' } := by
 obtain ⟨k1, k2, k3, k4⟩ := ha.keep1 7 hc (fun _ _ _ => by omega)
 obtain ⟨k5, k6⟩ := ha.keep4a 7 w'
 exact WoN.next hR (a' := { a with vb := v', P := paint a.P 7 w w' }) ⟨k1, k2, k3, ha.keep2 7 hc (fun _ _ _ => by omega) (fun _ _ _ => by omega), ha.keep4 7 hc (fun _ _ _ => by omega), k5, k6, ha.keep5 7 hc (fun _ _ _ => by omega), ha.keep6 7 hc (fun _ _ _ => by omega), hq.mono (fun b _ hb => paint_plus ha.lim (by omega) hb) (fun b e => paint_lt ha.lim hc.size (by omega) e), k4, fun b hb => paint_lim ha.lim hc.size hb⟩ 7 rfl hc (fun _ h => by omega)
theorem WoN.topic {t' : List (Int × Int)} (ha : WoIn w p a m) (hR : ∀ b, R b → a.P b = 0 ∧ b < w.heap.size) (hq : TopicAt w' p.gt a.gp t') (hc : G.Chg (· = a.gp) w w') : WoC R w w' p { m with t := t' } := by
 have hgp := ha.tp2
 obtain ⟨k1, k2, k3, k4⟩ := ha.keep1 4 hc (fun b hb e => by subst e; omega)
 obtain ⟨k5, k6⟩ := ha.keep4a 4 w'
 exact WoN.next hR (a' := { a with P := paint a.P 4 w w' }) ⟨k1, k2, k3, ha.keep2 4 hc (fun b hb e => by subst e; omega) (fun b hb e => by subst e; omega), hq, k5, k6, ha.keep5 4 hc (fun b hb e => by subst e; omega), ha.keep6 4 hc (fun b hb e => by subst e; omega), ha.keep7 4 hc (fun b hb e => by subst e; omega), k4, fun b hb => paint_lim ha.lim hc.size hb⟩ 4 rfl hc (fun b e => by subst e; omega)
theorem WoN.loop {l' : Lp} {lw' lm' : Value} (ha : WoIn w p a m) (hR : ∀ b, R b → a.P b = 0 ∧ b < w.heap.size) (hp : l'.p = m.l.p)
  (hq : LopAt 219 257 290 (fun b => a.P b = 2) (G.Plus (fun b => a.P b = 3) w w') w' p.gl a.gs a.lt a.lf lw' lm' l') (hc : G.Chg (fun b => a.P b = 2 ∨ a.P b = 3) w w') : WoC R w w' p { m with l := l' } := by
 obtain ⟨k1, k2, k3, k4⟩ := ha.keep1 3 hc (fun _ _ _ => by omega)
 obtain ⟨k5, k6⟩ := ha.keep4a 3 w'
 rw [← hp] at k2
 exact WoN.next hR (a' := { a with lw := lw', lm := lm', P := paint a.P 3 w w' }) ⟨k1, k2, k3, hq.mono (fun b hb e => paint_ne ha.lim (by omega) hb e) (fun b _ hb => paint_plus ha.lim (by omega) hb) (fun b e => paint_lt ha.lim hc.size (by omega) e) (fun b e => paint_lt ha.lim hc.size (by omega) e) (fun b (e1 : paint _ _ _ _ b = 2) (e2 : paint _ _ _ _ b = 3) => by omega), ha.keep4 3 hc (fun _ _ _ => by omega), k5, k6, ha.keep5 3 hc (fun _ _ _ => by omega), ha.keep6 3 hc (fun _ _ _ => by omega), ha.keep7 3 hc (fun _ _ _ => by omega), k4, fun b hb => paint_lim ha.lim hc.size hb⟩ 3 rfl hc (fun _ h => by omega)
theorem WoN.head (h : WoN R w p m) (k : Nat) (u : Value) (n' t' : Int)
  (hu : (#[.pointer (some ⟨p.gl, 0, none⟩), .pointer (some ⟨p.gt, 0, none⟩), .pointer (some ⟨p.gq, 0, none⟩), .pointer (some ⟨p.gf, 0, none⟩), .pointer (some ⟨p.gb, 0, none⟩), p.vt, p.vf, .int .i64 m.sec, .int .i64 m.now, .int .i64 m.target] : Array Value).setIfInBounds k u = #[.pointer (some ⟨p.gl, 0, none⟩), .pointer (some ⟨p.gt, 0, none⟩), .pointer (some ⟨p.gq, 0, none⟩), .pointer (some ⟨p.gf, 0, none⟩), .pointer (some ⟨p.gb, 0, none⟩), p.vt, p.vf, .int .i64 m.sec, .int .i64 n', .int .i64 t']) : WoC R w (w.setCell ⟨p.g, k, none⟩ u) p { m with now := n', target := t' } := by
 obtain ⟨a, ha, hR⟩ := h
 have hown := ha.own
 have hc : G.Chg (· = p.g) w (w.setCell ⟨p.g, k, none⟩ u) := (G.Chg.refl (· = p.g) w).put (p := ⟨p.g, k, none⟩) (.inl rfl) u
 have hh := ha.head.put k u
 rw [hu] at hh
 have t1 := ha.trg.aside (p := ⟨p.g, k, none⟩) (ha.trg.apartAt ha.head (by decide)) u
 have t2 := ha.fls.aside (p := ⟨p.g, k, none⟩) (ha.fls.apartAt ha.head (by decide)) u
 obtain ⟨k5, k6⟩ := ha.keep4a 1 (w.setCell ⟨p.g, k, none⟩ u)
 exact WoN.next hR (a' := { a with P := paint a.P 1 w (w.setCell ⟨p.g, k, none⟩ u) }) ⟨hh, t1.mono (fun b hb e => paint_ne ha.lim (by omega) hb e), t2.mono (fun b hb e => paint_ne ha.lim (by omega) hb e), ha.keep2 1 hc (fun b hb e => by subst e; omega) (fun b hb e => by subst e; omega), ha.keep4 1 hc (fun b hb e => by subst e; omega), k5, k6, ha.keep5 1 hc (fun b hb e => by subst e; omega), ha.keep6 1 hc (fun b hb e => by subst e; omega), ha.keep7 1 hc (fun b hb e => by subst e; omega), (paint_old ha.head.inside).trans ha.own, fun b hb => paint_lim ha.lim hc.size hb⟩ 1 rfl hc (fun b e => by subst e; omega)
theorem WoN.trigs (h : WoN R w p m) : G.ListIn w 17 Trg.enc p.vt m.l.p.trigs := by obtain ⟨a, ha, _⟩ := h; exact ha.trg.list Trg.enc_length
theorem WoN.failv (h : WoN R w p m) : ∃ A cap, p.vf = .slice A m.fails.length cap ∧ (0 < m.fails.length → ∃ b, A = some ⟨b, 0, none⟩ ∧ b < w.heap.size ∧ ¬ R b ∧ b ≠ p.g ∧ ∀ (i : Nat) (x : Bool), m.fails[i]? = some x → w.cell? ⟨b, i, none⟩ = some (.bool x) ∧ w.frozen? ⟨b, i, none⟩ = false) := by
 obtain ⟨a, ha, hR⟩ := h
 obtain ⟨A, cap, e, _, _, hA⟩ := ha.fls.slice
 refine ⟨A, cap, e, fun h0 => ?_⟩
 obtain ⟨b, e1, hS, hr⟩ := hA h0
 have hS' : a.P b = 1 := hS
 refine ⟨b, e1, hr.inside, fun h => by have := (hR b h).1; omega, ha.fls.apartAt ha.head (by decide) b (by rw [e, e1]; rfl), fun i x hx => ⟨hr.cell (by rw [List.getElem?_map, hx]; rfl), hr.soft i⟩⟩
theorem WoN.failSet {b n cap : Nat} (h : WoN R w p m) (e : p.vf = .slice (some ⟨b, 0, none⟩) n cap) {i : Nat} (hi : i < m.fails.length) (x : Bool) : WoC R w (w.setCell ⟨b, i, none⟩ (.bool x)) p { m with fails := m.fails.set i x } := by
 obtain ⟨a, ha, hR⟩ := h
 have hf := ha.fls
 have hn : n = m.fails.length := by have := hf.slice; obtain ⟨A, c, e2, _⟩ := this; rw [e] at e2; cases e2; rfl
 subst hn
 have hb1 : a.P b = 1 := (hf.block b (by rw [e]; rfl)).1
 have hbg : b ≠ p.g := hf.apartAt ha.head (by decide) b (by rw [e]; rfl)
 have hbt : ∀ g, p.vt.ownBlock = some g → g ≠ b := fun g hg => by
  rintro rfl
  rw [e] at hf
  obtain ⟨g2, c2, e3, _, _, _, r2⟩ := hf.form (by omega)
  cases e3
  obtain ⟨cur, hcur, _⟩ := r2
  exact ha.trg.apartAt hcur (by decide) g hg rfl
 have hc : G.Chg (· = b) w (w.setCell ⟨b, i, none⟩ (.bool x)) := (G.Chg.refl (· = b) w).put (p := ⟨b, i, none⟩) (.inl rfl) _
 have hne : ∀ k, k ≠ 1 → ∀ g, a.P g = k → ¬ g = b := fun k hk g hg eg => by subst eg; omega
 have f' : G.OwnRow (fun b => a.P b = 1) (w.setCell ⟨b, i, none⟩ (.bool x)) 4 1 p.vf m.fails.length ((m.fails.set i x).map Value.bool) := by
  rw [e] at hf ⊢
  have := hf.put (i := i) (by rw [List.length_map]; exact hi) (.bool x)
  rw [List.map_set]; exact this
 obtain ⟨k5, k6⟩ := ha.keep4a 1 (w.setCell ⟨b, i, none⟩ (.bool x))
 refine WoN.next hR (a' := { a with P := paint a.P 1 w (w.setCell ⟨b, i, none⟩ (.bool x)) }) ⟨ha.head.other (p := ⟨b, i, none⟩) (Ne.symm hbg) _, ?_, ?_, ha.keep2 1 hc (hne 2 (by omega)) (hne 3 (by omega)), ha.keep4 1 hc (hne 4 (by omega)), k5, k6, ha.keep5 1 hc (hne 5 (by omega)), ha.keep6 1 hc (hne 6 (by omega)), ha.keep7 1 hc (hne 7 (by omega)), (paint_old ha.head.inside).trans ha.own, fun b hb => paint_lim ha.lim hc.size hb⟩ 1 rfl hc (fun g eg => by subst eg; omega)
 ·exact (ha.trg.aside (p := ⟨b, i, none⟩) hbt _).mono (fun g hg eg => paint_ne ha.lim (by omega) hg eg)
 show G.OwnRow _ _ _ _ _ (m.fails.set i x).length _
 rw [List.length_set]
 exact f'.mono (fun g hg eg => paint_ne ha.lim (by omega) hg eg)
end
open Go.RowKit
section
variable {R : Nat → Prop} {p : Wp} {m : Wo}
theorem two_loads {l : List G.Pod} {a b : Int} (h : G.Crewed l a b) (hb : b ≤ 100) : ∀ p ∈ l, 0 ≤ p.load ∧ p.load ≤ 1000 := fun p hp => by have := h.loads p hp; omega
theorem woPut (n : Int) (w : World) (h : WoN R w p m) (l0 : 0 ≤ m.ql) (l1 : m.ql ≤ 4000000000000000000) :
  Calls Tryz.prog 92 #[.pointer (some ⟨p.gq, 0, none⟩), .int .i64 n] w fun e w' => e = .returned (.tuple #[.int .i64 (G.putNum m.q m.ql n), .int .i64 (G.putErr m.q n)]) ∧ WoC R w w' p { m with q := G.putLst m.q m.ql n, ql := G.putLast m.q m.ql n } := by
 obtain ⟨a, ha, hR⟩ := h
 refine (quePut _ p.gq a.vq m.q m.ql n w ha.qu l0 l1).mono ?_
 rintro e w' ⟨he, ⟨v', hq⟩, hc⟩
 exact ⟨he, WoN.queue ha hR hq hc⟩
theorem woLease (now n : Int) (w : World) (h : WoN R w p m) :
  Calls Tryz.prog 93 #[.pointer (some ⟨p.gq, 0, none⟩), .int .i64 now, .int .i64 n] w fun e w' => e = .returned (.tuple #[.int .i64 (G.leaseNum m.q now n), .int .i64 (G.leaseErr m.q now n)]) ∧ WoC R w w' p { m with q := G.leaseLst m.q now n } := by
 obtain ⟨a, ha, hR⟩ := h
 refine (queLease _ p.gq a.vq m.q m.ql now n w ha.qu).mono ?_
 rintro e w' ⟨he, hq, hc⟩
 exact ⟨he, WoN.queue ha hR hq.up hc⟩
theorem woAck (now n : Int) (w : World) (h : WoN R w p m) :
  Calls Tryz.prog 94 #[.pointer (some ⟨p.gq, 0, none⟩), .int .i64 now, .int .i64 n] w fun e w' => e = .returned (.int .i64 (G.ackErr m.q now n)) ∧ WoC R w w' p { m with q := G.ackLst m.q now n } := by
 obtain ⟨a, ha, hR⟩ := h
 refine (queAck _ p.gq a.vq m.q m.ql now n w ha.qu).mono ?_
 rintro e w' ⟨he, ⟨v', hq⟩, hc⟩
 exact ⟨he, WoN.queue ha hR hq.up hc⟩
theorem woDepth (now : Int) (w : World) (h : WoN R w p m) :
  Calls Tryz.prog 179 #[.pointer (some ⟨p.gq, 0, none⟩), .int .i64 now] w fun e w' => e = .returned (.tuple #[.int .i64 (G.depthNum m.q now), .int .i64 (G.nowErr now)]) ∧ WoC R w w' p { m with q := G.nowLst m.q now } := by
 obtain ⟨a, ha, hR⟩ := h
 refine (queDepth _ p.gq a.vq m.q m.ql now w ha.qu).mono ?_
 rintro e w' ⟨he, hq, hc⟩
 exact ⟨he, WoN.queue ha hR hq.up hc⟩
theorem woScale (n : Int) (w : World) (h : WoN R w p m) (hcr : G.Crewed m.f m.fl m.most) (hm : 0 ≤ m.most) (hs : m.f.length ≤ 90000000) (hla : m.fl ≤ 1000000000000) :
  Calls Tryz.prog 165 #[.pointer (some ⟨p.gf, 0, none⟩), .int .i64 n] w fun e w' => e = .returned (.int .i64 (G.scaleErr n)) ∧ WoC R w w' p { m with f := G.scaleLst m.f m.fl n, fl := G.scaleLast m.f m.fl n } := by
 obtain ⟨a, ha, hR⟩ := h
 refine (fleScale _ p.gf a.vp m.f m.fl m.most n w ha.fl hcr hm hs hla).mono ?_
 rintro e w' ⟨he, ⟨v', hq⟩, hc⟩
 exact ⟨he, WoN.fleet ha hR hq hc⟩
theorem woStart (n : Int) (w : World) (h : WoN R w p m) :
  Calls Tryz.prog 97 #[.pointer (some ⟨p.gf, 0, none⟩), .int .i64 n] w fun e w' => e = .returned (.int .i64 (G.turnErr m.f n 1)) ∧ WoC R w w' p { m with f := G.turnLst m.f n 1 2 } := by
 obtain ⟨a, ha, hR⟩ := h
 refine (fleStart _ p.gf a.vp m.f m.fl m.most n w ha.fl).mono ?_
 rintro e w' ⟨he, ⟨v', hq⟩, hc⟩
 exact ⟨he, WoN.fleet ha hR hq.up hc⟩
theorem woReady (n : Int) (w : World) (h : WoN R w p m) :
  Calls Tryz.prog 99 #[.pointer (some ⟨p.gf, 0, none⟩), .int .i64 n] w fun e w' => e = .returned (.int .i64 (G.turnErr m.f n 2)) ∧ WoC R w w' p { m with f := G.turnLst m.f n 2 3 } := by
 obtain ⟨a, ha, hR⟩ := h
 refine (fleReady _ p.gf a.vp m.f m.fl m.most n w ha.fl).mono ?_
 rintro e w' ⟨he, ⟨v', hq⟩, hc⟩
 exact ⟨he, WoN.fleet ha hR hq.up hc⟩
theorem woCrash (n : Int) (w : World) (h : WoN R w p m) :
  Calls Tryz.prog 138 #[.pointer (some ⟨p.gf, 0, none⟩), .int .i64 n] w fun e w' => e = .returned (.tuple #[.int .i64 (G.crashNum m.f n), .int .i64 (G.crashErr m.f n)]) ∧ WoC R w w' p { m with f := G.crashLst m.f n } := by
 obtain ⟨a, ha, hR⟩ := h
 refine (fleCrash _ p.gf a.vp m.f m.fl m.most n w ha.fl).mono ?_
 rintro e w' ⟨he, ⟨v', hq⟩, hc⟩
 exact ⟨he, WoN.fleet ha hR hq.up hc⟩
theorem woPodDone (n : Int) (w : World) (h : WoN R w p m) (hld : ∀ p ∈ m.f, 0 ≤ p.load ∧ p.load ≤ 1000) :
  Calls Tryz.prog 142 #[.pointer (some ⟨p.gf, 0, none⟩), .int .i64 n] w fun e w' => e = .returned (.int .i64 (G.podDoneErr m.f n)) ∧ WoC R w w' p { m with f := G.podDoneLst m.f n } := by
 obtain ⟨a, ha, hR⟩ := h
 refine (fleDone _ p.gf a.vp m.f m.fl m.most n w ha.fl hld).mono ?_
 rintro e w' ⟨he, ⟨v', hq⟩, hc⟩
 exact ⟨he, WoN.fleet ha hR hq.up hc⟩
theorem woGive (w : World) (h : WoN R w p m) (hm : m.most ≤ 1000) (hld : ∀ p ∈ m.f, 0 ≤ p.load) :
  Calls Tryz.prog 167 #[.pointer (some ⟨p.gf, 0, none⟩)] w fun e w' => e = .returned (.tuple #[.int .i64 (G.giveNum m.f m.most), .int .i64 (G.giveErr m.f m.most)]) ∧ WoC R w w' p { m with f := G.giveLst m.f m.most } := by
 obtain ⟨a, ha, hR⟩ := h
 refine (fleGive _ p.gf a.vp m.f m.fl m.most w ha.fl hm hld).mono ?_
 rintro e w' ⟨he, ⟨v', hq⟩, hc⟩
 exact ⟨he, WoN.fleet ha hR hq.up hc⟩
theorem woAsk (now s n : Int) (w : World) (h : WoN R w p m) :
  Calls Tryz.prog 101 #[.pointer (some ⟨p.gb, 0, none⟩), .int .i64 now, .int .i64 s, .int .i64 n] w fun e w' => e = .returned (.tuple #[.int .i64 (G.askNum m.b now s n), .int .i64 (G.askErr m.b now s n)]) ∧ WoC R w w' p { m with b := G.askLst m.b now s n } := by
 obtain ⟨a, ha, hR⟩ := h
 refine (bufAsk _ p.gb a.vb m.b now s n w ha.bu).mono ?_
 rintro e w' ⟨he, ⟨v', hq⟩, hc⟩
 exact ⟨he, WoN.buffer ha hR hq hc⟩
theorem woRun (id pod : Int) (w : World) (h : WoN R w p m) :
  Calls Tryz.prog 168 #[.pointer (some ⟨p.gb, 0, none⟩), .int .i64 id, .int .i64 pod] w fun e w' => e = .returned (.int .i64 (G.runErr m.b id)) ∧ WoC R w w' p { m with b := G.runLst m.b id pod } := by
 obtain ⟨a, ha, hR⟩ := h
 refine (bufRun _ p.gb a.vb m.b id pod w ha.bu).mono ?_
 rintro e w' ⟨he, ⟨v', hq⟩, hc⟩
 exact ⟨he, WoN.buffer ha hR hq.up hc⟩
theorem woReqDone (id : Int) (w : World) (h : WoN R w p m) :
  Calls Tryz.prog 141 #[.pointer (some ⟨p.gb, 0, none⟩), .int .i64 id] w fun e w' => e = .returned (.tuple #[.int .i64 (G.doneNum m.b id), .int .i64 (G.doneErr m.b id)]) ∧ WoC R w w' p { m with b := G.doneLst m.b id } := by
 obtain ⟨a, ha, hR⟩ := h
 refine (bufDone _ p.gb a.vb m.b id w ha.bu).mono ?_
 rintro e w' ⟨he, ⟨v', hq⟩, hc⟩
 exact ⟨he, WoN.buffer ha hR hq.up hc⟩
theorem woMake (i n : Int) (w : World) (h : WoN R w p m) (hs : Small m.t) :
  Calls Tryz.prog 90 #[.pointer (some ⟨p.gt, 0, none⟩), .int .i64 i, .int .i64 n] w fun e w' => e = .returned (.int .i64 (makeErr m.t i n)) ∧ WoC R w w' p { m with t := makeLst m.t i n } := by
 obtain ⟨a, ha, hR⟩ := h
 refine (topMake_any p.gt a.gp m.t i n w ha.tp hs).mono ?_
 rintro e w' ⟨he, hq, hc⟩
 exact ⟨he, WoN.topic ha hR hq hc⟩
theorem woTake (i n : Int) (w : World) (h : WoN R w p m) :
  Calls Tryz.prog 91 #[.pointer (some ⟨p.gt, 0, none⟩), .int .i64 i, .int .i64 n] w fun e w' => e = .returned (.int .i64 (takeErr m.t i n)) ∧ WoC R w w' p { m with t := takeLst m.t i n } := by
 obtain ⟨a, ha, hR⟩ := h
 refine (topTake_any p.gt a.gp m.t i n w ha.tp).mono ?_
 rintro e w' ⟨he, hq, hc⟩
 exact ⟨he, WoN.topic ha hR hq hc⟩
theorem woPause (n : Int) (w : World) (h : WoN R w p m) :
  Calls Tryz.prog 96 #[.pointer (some ⟨p.gl, 0, none⟩), .int .i64 n] w fun e w' => e = .returned (.int .i64 (pauseE n)) ∧ WoC R w w' p { m with l := pauseL m.l n } := by
 obtain ⟨a, ha, hR⟩ := h
 refine (lopPause (fun b => a.P b = 2) (fun b => a.P b = 3) p.gl a.gs a.lt a.lf a.lw a.lm m.l n w ha.lp).mono ?_
 rintro e w' ⟨he, hq, hc⟩
 exact ⟨he, WoN.loop ha hR (pauseL_p _ _) (hq.up (fun b hb => ha.lim b (by omega))) (hc.mono fun b _ hb => .inl hb)⟩
theorem woDue (now : Int) (j : Nat) (w : World) (h : WoN R w p m) (hj : m.l.ok j) (n0 : -9223372036854775808 ≤ now) (n1 : now ≤ 9223372036854775807) :
  Calls Tryz.prog 128 #[.pointer (some ⟨p.gl, 0, none⟩), .int .i64 now] w fun e w' => e = .returned (.bool (dueB m.l now)) ∧ WoC R w w' p m := by
 obtain ⟨a, ha, hR⟩ := id h
 refine (lopDue _ p.gl a.gs a.lt a.lf m.l now w ha.lp.head n0 n1 hj.last0 hj.last1).mono ?_
 rintro e w' ⟨he, hb⟩
 exact ⟨he, (WoC.refl h).below hb⟩
theorem woLook (Q : Nat → Prop) (v : Value) (now sec have0 : Int) (rs : List RdV) (busy : Bool) (j : Nat) (w : World) (h : WoN R w p m) (hr : RdsIn Q w v rs) (hQ : ∀ b, Q b → R b) (hj : m.l.ok j) (hj2 : j ≤ 290000) (hn : rs.length ≤ 9223372036854775807) :
  Calls Tryz.prog 163 #[.pointer (some ⟨p.gl, 0, none⟩), .int .i64 now, .int .i64 sec, .int .i64 have0, v, .bool busy] w fun e w' => e = .returned (.tuple #[.int .i64 (lookN m.l now sec have0 (rs.map RdV.rd) busy), .int .i64 (lookE m.l now sec have0 (rs.map RdV.rd).length)]) ∧ WoC R w w' p { m with l := lookL m.l now sec have0 (rs.map RdV.rd) busy } := by
 obtain ⟨a, ha, hR⟩ := h
 refine (lopLook (fun b => a.P b = 2) (fun b => a.P b = 3) Q p.gl a.gs a.lt a.lf a.lw a.lm v m.l now sec have0 rs busy j w ha.lp hr (fun b hb => by have := (hR b (hQ b hb)).1; exact ⟨by omega, by omega⟩) hj hj2 hn).mono ?_
 rintro e w' ⟨he, ⟨vw', vm', hq⟩, hc⟩
 exact ⟨he, WoN.loop ha hR (lookL_p _ _ _ _ _ _) hq hc⟩
theorem woNext (w : World) (h : WoN R w p m) :
  Calls Tryz.prog 166 #[.pointer (some ⟨p.gb, 0, none⟩)] w fun e w' => e = .returned (.tuple #[.int .i64 (G.nextN m.b), .bool (decide (0 < G.nextN m.b))]) ∧ WoC R w w' p m := by
 obtain ⟨a, ha, hR⟩ := id h
 refine (bufNext _ p.gb a.vb m.b w ha.bu).mono ?_
 rintro e w' ⟨he, hb⟩
 exact ⟨he, (WoC.refl h).below hb⟩
theorem woBusy (w : World) (h : WoN R w p m) :
  Calls Tryz.prog 162 #[.pointer (some ⟨p.gb, 0, none⟩)] w fun e w' => e = .returned (.tuple #[.int .i64 (G.countF (-1) 1 m.b), .int .i64 (G.countF (-1) 2 m.b)]) ∧ Below w.heap.size w w' := by
 obtain ⟨a, ha, hR⟩ := id h
 exact bufCount2 _ p.gb a.vb m.b w ha.bu
theorem woLive (w : World) (h : WoN R w p m) :
  Calls Tryz.prog 164 #[.pointer (some ⟨p.gf, 0, none⟩)] w fun e w' => e = .returned (.int .i64 (G.liveN m.f)) ∧ Below w.heap.size w w' := by
 obtain ⟨a, ha, hR⟩ := id h
 exact fleCount _ p.gf a.vp m.f m.fl m.most w ha.fl
theorem woLate (now : Int) (w : World) (h : WoN R w p m) :
  Calls Tryz.prog 127 #[.pointer (some ⟨p.gb, 0, none⟩), .int .i64 now] w fun e w' => (∃ v, e = .returned (.tuple #[v, .int .i64 (G.lateErr now)])) ∧ WoC R w w' p { m with b := G.lateLst m.b now } := by
 obtain ⟨a, ha, hR⟩ := h
 refine (bufLate _ p.gb a.vb m.b now w ha.bu).mono ?_
 rintro e w' ⟨v, he, _, hq, hc⟩
 exact ⟨⟨v, he⟩, WoN.buffer ha hR hq.up hc⟩
theorem woLost (pod : Int) (w : World) (h : WoN R w p m) :
  Calls Tryz.prog 139 #[.pointer (some ⟨p.gb, 0, none⟩), .int .i64 pod] w fun e w' => (∃ v, e = .returned v) ∧ WoC R w w' p { m with b := G.lostLst m.b pod } := by
 obtain ⟨a, ha, hR⟩ := h
 refine (bufLost _ p.gb a.vb m.b pod w ha.bu).mono ?_
 rintro e w' ⟨v, he, _, hq, hc⟩
 exact ⟨⟨v, he⟩, WoN.buffer ha hR hq.up hc⟩
theorem woPods (w : World) (h : WoN R w p m) : Calls Tryz.prog 125 #[.pointer (some ⟨p.gf, 0, none⟩)] w (FleAllPost w m.f) := by
 obtain ⟨a, ha, hR⟩ := h
 exact fleAll _ p.gf a.vp m.f m.fl m.most w ha.fl
theorem woReqs (w : World) (h : WoN R w p m) : Calls Tryz.prog 126 #[.pointer (some ⟨p.gb, 0, none⟩)] w (BufAllPost w m.b) := by
 obtain ⟨a, ha, hR⟩ := h
 exact bufAll _ p.gb a.vb m.b w ha.bu
theorem woLags (w : World) (h : WoN R w p m) (hs : Small m.t) : Calls Tryz.prog 178 #[.pointer (some ⟨p.gt, 0, none⟩)] w (LagsPost w (lagsOf m.t)) := by
 obtain ⟨a, ha, hR⟩ := h
 exact topLags p.gt a.gp m.t w ha.tp hs
end
open Go.RowKit
def WoPost (R : Nat → Prop) (w : World) (p : Wp) (x : Value) (m : Wo) (e : Ending) (w' : World) : Prop := e = .returned x ∧ WoC R w w' p m
def OnRun (R : Nat → Prop) (w wr : World) (p : Wp) (m : Wo) (k : Nat) : Prop := ∃ m' : Wo, WoC R w wr p m' ∧ m' = { m with b := m'.b, f := m'.f } ∧ G.Numbered m'.b ∧ G.waitN m'.b ≤ k ∧ G.Crewed m'.f m.fl m.most ∧ onN m.most k (m'.b, m'.f) = onN m.most m.b.length (m.b, m.f)
theorem onRun_stop {R : Nat → Prop} {w wr : World} {p : Wp} {m m' : Wo} {k : Nat} (h : WoC R w wr p m') (e : m' = { m with b := m'.b, f := m'.f }) (hg : onGoes m.most m'.b m'.f = false) (hk : onN m.most k (m'.b, m'.f) = onN m.most m.b.length (m.b, m.f)) : WoPost R w p (.tuple #[]) m.on (.returned (.tuple #[])) wr := by
 rw [onN_stop (x := (m'.b, m'.f)) hg] at hk
 refine ⟨rfl, ?_⟩
 unfold Wo.on
 rw [← hk]
 rw [e] at h
 exact h
theorem waitN_le (l : List G.Req) : G.waitN l ≤ l.length := by unfold G.waitN; exact List.countP_le_length
theorem woOn (R : Nat → Prop) (p : Wp) (m : Wo) (j : Nat) (w : World) (h : WoN R w p m) (hk : m.ok j) :
  Calls Tryz.prog 130 #[.pointer (some ⟨p.g, 0, none⟩)] w (WoPost R w p (.tuple #[]) m.on) := by
 have HS := J (show OnRun R w w p m m.b.length from ⟨m, WoC.refl h, rfl, hk.fair.num, waitN_le _, hk.crew, rfl⟩)
 have HM := J (show m.most ≤ 1000 by have := hk.most1; omega)
 clear h hk
 go_enter Tryz.func130, Tryz.ntmps130
 go_wp2_with fail
 go_loopg [] m.b.length (fun k wr => Hid (OnRun R w wr p m k))
 case atStart => exact HS
 clear HS
 obtain ⟨m', hC, hm, hn, hw, hcr, he⟩ := hrel.u
 have HC := J hC; have HEq := J hm; have HNu := J hn; have HW := J hw; have HCr := J hcr; have HE := J he
 have HMo := J (show m'.most = m.most by rw [hm])
 have HFl := J (show m'.fl = m.fl by rw [hm])
 have x4 := hC.1.at.here (i := 4) rfl
 clear hC hm hn hw hcr he hrel
 go_wp2_with fail
 refine (woNext _ HC.u.1).mono ?_
 rintro e w2 ⟨rfl, hc2⟩
 have HC2 := J (WoC.trans HC.u.2 hc2)
 by_cases hnx : 0 < G.nextN m'.b
 ·have HNx := J hnx
  have x3 := HC2.u.1.at.here (i := 3) rfl
  rw [decide_eq_true hnx]
  clear hc2 hnx x4 HC
  go_wp2_with fail
  refine (woGive _ HC2.u.1 (by rw [HMo.u]; exact HM.u) (fun q hq => (HCr.u.loads q hq).1)).mono ?_
  rintro e w3 ⟨rfl, hc3⟩
  have HC3 := J (WoC.trans HC2.u.2 hc3)
  by_cases hg : G.giveErr m'.f m'.most = 0
  ·have HG := J (show onGoes m.most m'.b m'.f = true by unfold onGoes; rw [← HMo.u, hg, decide_eq_true HNx.u]; rfl)
   have x4 := HC3.u.1.at.here (i := 4) rfl
   rw [hg]
   clear hc3 hg x3 HC2
   go_wp2_with fail
   refine (woRun (G.nextN m'.b) (G.giveNum m'.f m'.most) _ HC3.u.1).mono ?_
   rintro e w4 ⟨rfl, hc4⟩
   have HN := J (show OnRun R w w4 p m (gk - 1) from ⟨_, WoC.trans HC3.u.2 hc4, by rw [HEq.u], G.tame_num HNu.u (G.tame_run _ _ _), by
    have := G.waitN_run HNu.u HNx.u (G.giveNum m'.f m'.most); have := HW.u; show G.waitN (G.runLst m'.b (G.nextN m'.b) (G.giveNum m'.f m'.most)) ≤ gk - 1; omega, by show G.Crewed (G.giveLst m'.f m'.most) m.fl m.most; rw [HMo.u]; exact HCr.u.give.1, by
    have hk1 : gk = gk - 1 + 1 := by have := G.waitN_run HNu.u HNx.u 0; have := HW.u; omega
    have e2 := HE.u
    rw [hk1, onN_go (x := (m'.b, m'.f)) HG.u] at e2
    rw [← e2]; show onN m.most (gk - 1) (G.runLst m'.b _ _, G.giveLst m'.f m'.most) = _; rw [HMo.u]⟩)
   have hgk : 0 < gk := by have := G.waitN_run HNu.u HNx.u 0; have := HW.u; omega
   have HGk := J hgk
   clear hc4 hgk x4 HC3
   go_wp2_with fail
   go_roundg (gk - 1)
   case measure => have := HGk.u; omega
   case rel => exact HN
  have hgb : (G.giveErr m'.f m'.most != 0) = true := by simpa using hg
  have HF := J (onRun_stop (show WoC R w w3 p m' by
   have e4 : G.giveLst m'.f m'.most = m'.f := by unfold G.giveErr at hg; unfold G.giveLst; cases hq : G.giveAt m'.f m'.most with
    | none => rfl
    | some i => rw [hq] at hg; exact absurd rfl hg
   have := HC3.u; rw [e4] at this; exact this) HEq.u (by unfold onGoes; rw [← HMo.u, show (G.giveErr m'.f m'.most == 0) = false by simpa using hg, Bool.and_false]) HE.u)
  generalize G.giveErr m'.f m'.most = ge at hgb ⊢
  clear hc3 hg x3 HC2 HC3
  go_wp2_with fail
  go_end0
  exact HF.u
 have HF := J (onRun_stop HC2.u HEq.u (by unfold onGoes; rw [decide_eq_false hnx]; rfl) HE.u)
 rw [decide_eq_false hnx]
 clear hc2 hnx x4 HC
 go_wp2_with fail
 go_end0
 exact HF.u
theorem woThen (R : Nat → Prop) (p : Wp) (m : Wo) (j : Nat) (x : Int) (w : World) (h : WoN R w p m) (hk : m.ok j) :
  Calls Tryz.prog 98 #[.pointer (some ⟨p.g, 0, none⟩), .int .i64 x] w (WoPost R w p (.int .i64 x) (if x = 0 then m.on else m)) := by
 have HH := J h; have HK := J hk
 clear h hk
 by_cases hx : x = 0
 ·subst hx
  rw [if_pos rfl]
  go_enter Tryz.func98, Tryz.ntmps98
  go_wp2_with fail
  refine (woOn R p m j _ HH.u HK.u).mono ?_
  rintro e w2 ⟨rfl, hc⟩
  have HC := J hc
  clear hc
  go_wp2_with fail
  go_ret
  exact ⟨rfl, HC.u⟩
 have hxb : (x == 0) = false := by simpa using hx
 have HC := J (WoC.refl HH.u)
 rw [if_neg hx]
 clear hx
 go_enter Tryz.func98, Tryz.ntmps98
 go_wp2_with fail
 go_ret
 exact ⟨rfl, HC.u⟩
def crashW (m : Wo) (n : Int) : Wo := if G.crashErr m.f n = 0 then ({ m with f := G.crashLst m.f n, b := G.lostLst m.b n } : Wo).on else m
theorem ok_crash {m : Wo} {j : Nat} (h : m.ok j) (n : Int) : ({ m with f := G.crashLst m.f n, b := G.lostLst m.b n } : Wo).ok j :=
 { h with crew := (h.crew.crash n).1, live := Int.le_trans (G.live_crash _ _) h.live, fn := Nat.le_trans (h.crew.crash n).2.2 h.fn, fair := (G.fair_lost h.fair _).1, bn := by show (G.lostLst _ _).length ≤ 200; rw [G.lost_length]; exact h.bn }
theorem ok_doneW {m : Wo} {j : Nat} (h : m.ok j) (n : Int) : (doneW m n).ok j :=
 { h with crew := (h.crew.done (G.doneNum m.b n)).1, live := Int.le_trans (G.live_podDone _ _) h.live, fn := Nat.le_trans (h.crew.done (G.doneNum m.b n)).2.2 h.fn, fair := (G.fair_done h.fair _).1, bn := by show (G.doneLst _ _).length ≤ 200; rw [G.reqDone_length]; exact h.bn }
theorem woCrashed (R : Nat → Prop) (p : Wp) (m : Wo) (j : Nat) (n : Int) (w : World) (h : WoN R w p m) (hk : m.ok j) :
  Calls Tryz.prog 100 #[.pointer (some ⟨p.g, 0, none⟩), .int .i64 n] w (WoPost R w p (.int .i64 (G.crashErr m.f n)) (crashW m n)) := by
 have HH := J h; have HK := J hk
 have x3 := h.at.here (i := 3) rfl
 clear h hk
 go_enter Tryz.func100, Tryz.ntmps100
 go_wp2_with fail
 refine (woCrash n _ HH.u).mono ?_
 rintro e w2 ⟨rfl, hc2⟩
 by_cases hx : G.crashErr m.f n = 0
 ·have HU := J (show crashW m n = ({ m with f := G.crashLst m.f n, b := G.lostLst m.b n } : Wo).on by unfold crashW; rw [if_pos hx])
  have HC2 := J hc2
  have HXe := J hx
  have x4 := hc2.1.at.here (i := 4) rfl
  rw [hx]
  clear hx hc2 x3
  go_wp2_with fail
  refine (woLost n _ HC2.u.1).mono ?_
  rintro e w3 ⟨⟨v, rfl⟩, hc3⟩
  have HC3 := J (WoC.trans HC2.u.2 hc3)
  clear hc3 x4
  go_wp2_with fail
  refine (woOn R p _ j _ HC3.u.1 (ok_crash HK.u n)).mono ?_
  rintro e w4 ⟨rfl, hc4⟩
  have HC4 := J (WoC.trans HC3.u.2 hc4)
  clear hc4
  go_wp2_with fail
  go_ret
  exact ⟨by rw [HXe.u] <;> rfl, by rw [HU.u]; exact HC4.u⟩
 have hxb : (G.crashErr m.f n != 0) = true := by simpa using hx
 have HF := J (show WoC R w w2 p (crashW m n) by
  unfold crashW; rw [if_neg hx]
  have e : G.crashLst m.f n = m.f := by
   unfold G.crashErr at hx; unfold G.crashLst
   cases hq : G.findP m.f n with
   | none => rfl
   | some i => rw [hq] at hx; exact absurd rfl hx
  rw [e] at hc2; exact hc2)
 clear hx hc2 x3
 obtain ⟨E, hE⟩ : ∃ E, G.crashErr m.f n = E := ⟨_, rfl⟩
 rw [hE] at hxb ⊢
 have HEq := J hE
 clear hE
 go_wp2_with fail
 go_ret
 exact ⟨by rw [HEq.u] <;> rfl, HF.u⟩
def finishW (m : Wo) (n : Int) : Wo := if G.doneErr m.b n = 0 then (doneW m n).on else m
theorem woFinished (R : Nat → Prop) (p : Wp) (m : Wo) (j : Nat) (n : Int) (w : World) (h : WoN R w p m) (hk : m.ok j) :
  Calls Tryz.prog 102 #[.pointer (some ⟨p.g, 0, none⟩), .int .i64 n] w (WoPost R w p (.int .i64 (G.doneErr m.b n)) (finishW m n)) := by
 have HH := J h; have HK := J hk
 have HL := J (two_loads hk.crew hk.most1)
 have x4 := h.at.here (i := 4) rfl
 clear h hk
 go_enter Tryz.func102, Tryz.ntmps102
 go_wp2_with fail
 refine (woReqDone n _ HH.u).mono ?_
 rintro e w2 ⟨rfl, hc2⟩
 by_cases hx : G.doneErr m.b n = 0
 ·have HU := J (show finishW m n = (doneW m n).on by unfold finishW; rw [if_pos hx])
  have HC2 := J hc2
  have HXe := J hx
  have x3 := hc2.1.at.here (i := 3) rfl
  rw [hx]
  clear hx hc2 x4
  go_wp2_with fail
  refine (woPodDone (G.doneNum m.b n) _ HC2.u.1 HL.u).mono ?_
  rintro e w3 ⟨rfl, hc3⟩
  have HC3 := J (show WoC R w w3 p (doneW m n) from WoC.trans HC2.u.2 hc3)
  clear hc3 x3
  go_wp2_with fail
  refine (woOn R p _ j _ HC3.u.1 (ok_doneW HK.u n)).mono ?_
  rintro e w4 ⟨rfl, hc4⟩
  have HC4 := J (WoC.trans HC3.u.2 hc4)
  clear hc4
  go_wp2_with fail
  go_ret
  exact ⟨by rw [HXe.u] <;> rfl, by rw [HU.u]; exact HC4.u⟩
 have hxb : (G.doneErr m.b n != 0) = true := by simpa using hx
 have HF := J (show WoC R w w2 p (finishW m n) by
  unfold finishW; rw [if_neg hx]
  have e : G.doneLst m.b n = m.b := by
   unfold G.doneErr at hx; unfold G.doneLst
   cases hq : G.reqAt m.b n with
   | none => rfl
   | some r =>
    rw [hq] at hx; simp only at hx ⊢
    split
    ·rename_i h2; rw [if_pos h2] at hx; exact absurd rfl hx
    rfl
  rw [e] at hc2; exact hc2)
 clear hx hc2 x4
 obtain ⟨E, hE⟩ : ∃ E, G.doneErr m.b n = E := ⟨_, rfl⟩
 rw [hE] at hxb ⊢
 have HEq := J hE
 clear hE
 go_wp2_with fail
 go_ret
 exact ⟨by rw [HEq.u] <;> rfl, HF.u⟩
def failW (m : Wo) (a n : Int) : Wo := if failE m a n = 0 then { m with fails := m.fails.set a.toNat (n == 1) } else m
theorem woFail (R : Nat → Prop) (p : Wp) (m : Wo) (a n : Int) (w : World) (h : WoN R w p m) (hf : m.fails.length ≤ 1000) :
  Calls Tryz.prog 95 #[.pointer (some ⟨p.g, 0, none⟩), .int .i64 a, .int .i64 n] w (WoPost R w p (.int .i64 (failE m a n)) (failW m a n)) := by
 obtain ⟨A, cap, e, hA⟩ := h.failv
 have x6 : w.cell? ⟨p.g, 6, none⟩ = some (.slice A m.fails.length cap) := e ▸ h.at.here (i := 6) rfl
 have hl : (m.fails.length : Int) ≤ 1000 := by omega
 have HC := J (WoC.refl h)
 by_cases h0 : a < 0 ∨ (m.fails.length : Int) ≤ a
 ·have e1 : failE m a n = 4 := by unfold failE; rw [if_pos h0]
  have e2 : failW m a n = m := by unfold failW; rw [e1]; rfl
  rw [e1, e2]
  clear hA e e1 e2 h
  by_cases h1 : a < 0
  ·clear h0
   go_enter Tryz.func95, Tryz.ntmps95
   go_wp2_with fail
   go_ret
   exact ⟨rfl, HC.u⟩
  have h2 : (m.fails.length : Int) ≤ a := by omega
  clear h0
  go_enter Tryz.func95, Tryz.ntmps95
  go_wp2_with fail
  go_ret
  exact ⟨rfl, HC.u⟩
 obtain ⟨k, rfl⟩ := Int.eq_ofNat_of_zero_le (show 0 ≤ a by omega)
 have hk : k < m.fails.length := by omega
 have k0 : (0 : Int) ≤ (k : Int) := by omega
 have k1 : (k : Int) < (m.fails.length : Int) := by omega
 obtain ⟨b, rfl, hb, _, hbg, hcl⟩ := hA (by omega)
 obtain ⟨x, hx⟩ := G.get_some m.fails hk
 obtain ⟨c0, c1⟩ := hcl k x hx
 by_cases hn : n ≠ 0 ∧ n ≠ 1
 ·have e1 : failE m k n = 1 := by unfold failE; rw [if_neg h0, if_pos hn]
  have e2 : failW m k n = m := by unfold failW; rw [e1]; rfl
  rw [e1, e2]
  obtain ⟨n0, n1⟩ := hn
  have n0b : (n != 0) = true := by simpa using n0
  have n1b : (n != 1) = true := by simpa using n1
  clear h0 hA e e1 e2 h hcl c0 c1 hx n0 n1
  go_enter Tryz.func95, Tryz.ntmps95
  go_wp2_with fail
  go_ret
  exact ⟨rfl, HC.u⟩
 have e1 : failE m k n = 0 := by unfold failE; rw [if_neg h0, if_neg hn]
 have e2 : failW m k n = { m with fails := m.fails.set k (n == 1) } := by unfold failW; rw [if_pos e1]; rfl
 have HF := J (h.failSet e hk (n == 1))
 rw [e1, e2]
 rcases (show n = 0 ∨ n = 1 by omega) with rfl | rfl
 all_goals
  clear h0 hA e e1 e2 h hcl hx hn
  go_enter Tryz.func95, Tryz.ntmps95
  go_wp2_with fail
  go_ret
  exact ⟨rfl, HF.u⟩
open Go.RowKit
def RdPost (R : Nat → Prop) (w : World) (p : Wp) (m : Wo) (t : Trg) (x : Bool) (e : Ending) (w' : World) : Prop :=
 ∃ (r : RdV) (Q : Nat → Prop), e = .returned (.agg #[.bool r.failed, .slice r.A r.xs.length r.cap]) ∧ r.rd = readOf t x m.t m.q m.now ∧ NumsOf Q w' r.A r.xs ∧ r.xs.length ≤ 20 ∧ (∀ b, Q b → w.heap.size ≤ b) ∧ WoN (fun b => R b ∨ Q b) w' p { m with q := qAfter [t] m.q m.now } ∧ G.Chg (fun b => ¬ R b) w w'
theorem NumsOf.mono {R R' : Nat → Prop} {w : World} {A : Option Addr} {xs : List Int} (h : NumsOf R w A xs) (hs : ∀ b, R b → R' b) : NumsOf R' w A xs := fun h0 => by
 obtain ⟨b, off, e, hR, hlt, hx⟩ := h h0
 exact ⟨b, off, e, hs b hR, hlt, hx⟩
theorem NumsOf.keep {R R' : Nat → Prop} {w : World} {A : Option Addr} {xs : List Int} (h : NumsOf R w A xs) (hs : ∀ b, R b → b < w.heap.size → R' b) : NumsOf R' w A xs := fun h0 => by
 obtain ⟨b, off, e, hR, hlt, hx⟩ := h h0
 exact ⟨b, off, e, hs b hR hlt, hlt, hx⟩
theorem read_end {R Q : Nat → Prop} {w w2 wf : World} {p : Wp} {m : Wo} {t : Trg} {x : Bool} {A : Option Addr} {cap : Nat} {xs : List Int} (hR : ∀ b, R b → b < w.heap.size) (h2 : WoN (fun b => R b ∨ Q b) w2 p { m with q := qAfter [t] m.q m.now }) (hQ : ∀ b, Q b → w.heap.size ≤ b) (hc : G.Chg (fun b => ¬ R b) w w2) (q0 : Q w.heap.size) (q1 : Q (w.heap.size + 1))
  (hn : NumsOf (fun b => Q b ∧ b ≠ w.heap.size ∧ b ≠ w.heap.size + 1) w2 A xs) (hl : xs.length ≤ 20) (hf : G.Chg (fun b => b = w.heap.size ∨ b = w.heap.size + 1) w2 wf) (hr : (⟨x, xs⟩ : Rd) = readOf t x m.t m.q m.now) :
  RdPost R w p m t x (.returned (.agg #[.bool x, .slice A xs.length cap])) wf := by
 refine ⟨⟨x, A, cap, xs⟩, Q, rfl, hr, (hn.chg hf (fun b hb h => ?_)).mono (fun b hb => hb.1), hl, hQ, (h2.grow hf (fun b hb => ?_)).mono (fun b hb => .inl hb), hc.trans (hf.mono fun b _ hb hRb => ?_)⟩
 ·rcases h with h | h
  ·exact hb.2.1 h
  exact hb.2.2 h
 ·rcases hb with rfl | rfl
  ·exact .inr q0
  exact .inr q1
 have := hR b hRb; omega
theorem nums_of_row {S : Nat → Prop} {w : World} {A : Option Addr} {n cap : Nat} {xs : List Int} (h : G.OwnRow S w 3 1 (.slice A n cap) xs.length (xs.map (Value.int .i64))) : NumsOf S w A xs := fun h0 => by
 obtain ⟨A', cap', e, _, _, hv⟩ := h.slice
 cases e
 obtain ⟨g, e1, hS, hr⟩ := hv h0
 exact ⟨g, 0, e1, hS, hr.inside, fun i x hi => by rw [Nat.zero_add]; exact hr.cell (by rw [List.getElem?_map, hi]; rfl)⟩
theorem three_puts {g : Nat} (w : World) (a u v : Value) : G.Chg (fun b => b = g ∨ b = g + 1) w (((w.setCell ⟨g + 1, 1, none⟩ a).setCell ⟨g, 0, none⟩ u).setCell ⟨g, 1, none⟩ v) := (((G.Chg.refl (fun b => b = g ∨ b = g + 1) w).put (p := ⟨g + 1, 1, none⟩) (.inl (.inr rfl)) a).put (p := ⟨g, 0, none⟩) (.inl (.inl rfl)) u).put (p := ⟨g, 1, none⟩) (.inl (.inl rfl)) v
theorem chg_alloc_both {C : Nat → Prop} {w w' : World} (h : G.Chg C w w') (hz : w'.heap.size = w.heap.size) (o : Obj) : G.Chg C (w.alloc o) (w'.alloc o) := by
 refine ⟨h.os, h.tape, h.output, by simp [hz], fun k hk hn => ?_⟩
 simp only [World.size_alloc] at hk
 by_cases c : k < w.heap.size
 ·rw [Below.heap_alloc w' o k (by omega), Below.heap_alloc w o k c]; exact h.block k c hn
 have e : k = w.heap.size := by omega
 subst e
 have e1 : (w.alloc o).heap[w.heap.size]? = some o := heap_alloc_new w o
 have e2 : (w'.alloc o).heap[w'.heap.size]? = some o := heap_alloc_new w' o
 rw [e1, ← hz, e2]
theorem lags_length (l : List (Int × Int)) : (lagsOf l).length = l.length := by unfold lagsOf; simp
theorem two_made (w : World) (T : TypeId) (x : Value) (y : Array Value) : G.Chg (fun _ => False) w ((w.alloc (.cells y T)).alloc (.cells #[x, .slice none 0 0] T)) := ((G.Chg.refl _ w).alloc _).alloc _
theorem woReading (R : Nat → Prop) (p : Wp) (m : Wo) (i : Nat) (t : Trg) (x : Bool) (w : World) (h : WoN R w p m) (ht : m.l.p.trigs[i]? = some t) (hx : m.fails[i]? = some x) (hs : Small m.t) (hl : m.t.length ≤ 20) (hf : m.fails.length ≤ 1000) (hg : m.l.p.trigs.length ≤ 1000) :
  Calls Tryz.prog 161 #[.pointer (some ⟨p.g, 0, none⟩), .int .i64 (i : Int)] w (RdPost R w p m t x) := by
 obtain ⟨A, cap, e, hA⟩ := h.failv
 have hi := G.get_lt hx
 have hi2 := G.get_lt ht
 obtain ⟨b, rfl, hbl, _, _, hcl⟩ := hA (by omega)
 obtain ⟨c0, _⟩ := hcl i x hx
 obtain ⟨At, capt, et, hAt⟩ := h.trigs
 obtain ⟨bt, offt, rfl, hbt, hct⟩ := hAt (by omega)
 have k0 : w.cell? ⟨bt, offt + i * 17, none⟩ = some (.int .i64 t.kind) := hct i t 0 _ ht rfl
 have x6 : w.cell? ⟨p.g, 6, none⟩ = some (.slice (some ⟨b, 0, none⟩) m.fails.length cap) := e ▸ h.at.here (i := 6) rfl
 have x5 : w.cell? ⟨p.g, 5, none⟩ = some (.slice (some ⟨bt, offt, none⟩) m.l.p.trigs.length capt) := et ▸ h.at.here (i := 5) rfl
 have i0 : (0 : Int) ≤ (i : Int) := by omega
 have i1 : (i : Int) < (m.fails.length : Int) := by omega
 have i2 : (i : Int) < (m.l.p.trigs.length : Int) := by omega
 have i3 : (m.fails.length : Int) ≤ 1000 := by omega
 have i4 : (m.l.p.trigs.length : Int) ≤ 1000 := by omega
 have hpg : p.g < w.heap.size := h.at.inside
 have HR := J (fun b (hb : R b) => h.lt hb)
 have HH := J h; have HS := J hs; have HL := J hl
 have HZ := J (h.grow (two_made w 264 (.bool x) #[.bool false, .slice none 0 0]) (fun _ h => h.elim))
 have HC := J (two_made w 264 (.bool x) #[.bool false, .slice none 0 0])
 have HA0 := J ((G.At.made w 264 #[.bool false, .slice none 0 0]).alloc (.cells #[.bool x, .slice none 0 0] 264))
 have hA1 := G.At.made (w.alloc (.cells #[.bool false, .slice none 0 0] 264)) 264 #[.bool x, .slice none 0 0]
 rw [World.size_alloc] at hA1
 have HA1 := J hA1
 clear hA1 h e et hA hcl hAt hct hs hl hf hg ht hx hi hi2
 by_cases hk1 : t.kind = 1
 ·have HE := J (show (⟨x, lagsOf m.t⟩ : Rd) = readOf t x m.t m.q m.now by unfold readOf; rw [if_pos hk1])
  have HQa := J (show qAfter [t] m.q m.now = m.q by unfold qAfter isDepth; simp [hk1])
  rw [hk1] at k0
  clear hk1
  go_enter Tryz.func161, Tryz.ntmps161
  go_upto_region 4 with fail
  have x1 : ((w.alloc (.cells #[.bool false, .slice none 0 0] 264)).alloc (.cells #[.bool x, .slice none 0 0] 264)).cell? ⟨p.g, 1, none⟩ = some (.pointer (some ⟨p.gt, 0, none⟩)) := HZ.u.at.here (i := 1) rfl
  go_wp2_with fail
  refine (woLags _ HZ.u HS.u).mono ?_
  rintro e w2 ⟨v, rfl, ho, hb2⟩
  have hz2 := hb2.size
  simp only [World.size_alloc] at hz2
  have hO := G.OwnRow.of_owns (S := fun b => w.heap.size + 2 ≤ b) ho (fun g hg => by have := G.own_ge ho g hg; simpa using this)
  obtain ⟨A2, cap2, rfl, _, _, _⟩ := hO.slice
  have hC2 := HC.u.trans (G.Chg.of_below (S := fun _ => False) hb2 (Nat.le_refl _))
  have HG := J (HH.u.grow hC2 (fun _ h => h.elim))
  have HY := J (HA1.u.below hb2 HA1.u.inside)
  have HZ0 := J (HA0.u.below hb2 HA0.u.inside)
  have HF := J (fun (wf : World) (hf : G.Chg (fun b => b = w.heap.size ∨ b = w.heap.size + 1) w2 wf) => read_end (t := t) (cap := cap2) HR.u (Q := fun b => w.heap.size ≤ b ∧ b < w2.heap.size) (by rw [HQa.u]; exact HG.u) (fun b hb => hb.1) (hC2.mono fun _ _ h => h.elim) ⟨Nat.le_refl _, by omega⟩ ⟨by omega, by omega⟩ ((nums_of_row hO).keep fun b hb hlt => ⟨⟨by omega, hlt⟩, by omega, by omega⟩) (by rw [lags_length]; exact HL.u) hf HE.u)
  clear ho hb2 hO hC2 x1 k0 HG
  have y0 := HY.u.here (i := 0) rfl
  have y1 := HY.u.here (i := 1) rfl
  have y2 := HY.u.soft 0
  have y3 := HY.u.soft 1
  have z0 := HZ0.u.here (i := 0) rfl
  have z1 := HZ0.u.here (i := 1) rfl
  have z2 := HZ0.u.soft 0
  have z3 := HZ0.u.soft 1
  clear HY HZ0
  go_wp2_with fail
  refine bodyPost_ret (v := .agg #[.bool x, .slice A2 (lagsOf m.t).length cap2]) (by simp [results, Tryz.results161, go_sem, y0, y1, y2, y3, z0, z1, z2, z3]) rfl (HF.u _ ?_)
  exact three_puts _ _ _ _
 have hk1b : (t.kind == 1) = false := by simpa using hk1
 by_cases hk2 : t.kind = 2
 ·have HE := J (show (⟨x, [G.depthNum m.q m.now]⟩ : Rd) = readOf t x m.t m.q m.now by unfold readOf; rw [if_neg hk1, if_pos hk2])
  have HQa := J (show qAfter [t] m.q m.now = G.nowLst m.q m.now by unfold qAfter isDepth; simp [hk2])
  rw [hk2] at k0
  clear hk1 hk1b hk2
  have HN := J ((HZ.u.mono (R' := fun b => R b ∨ (b = w.heap.size ∨ b = w.heap.size + 1)) (fun b hb => hb.imp id (fun e => by simp only [World.size_alloc]; omega))))
  go_enter Tryz.func161, Tryz.ntmps161
  go_upto_region 6 with fail
  have x2 : ((w.alloc (.cells #[.bool false, .slice none 0 0] 264)).alloc (.cells #[.bool x, .slice none 0 0] 264)).cell? ⟨p.g, 2, none⟩ = some (.pointer (some ⟨p.gq, 0, none⟩)) := HZ.u.at.here (i := 2) rfl
  have x8 : ((w.alloc (.cells #[.bool false, .slice none 0 0] 264)).alloc (.cells #[.bool x, .slice none 0 0] 264)).cell? ⟨p.g, 8, none⟩ = some (.int .i64 m.now) := HZ.u.at.here (i := 8) rfl
  go_region_held3 (fun w' => w'.cell? ⟨p.g, 2, none⟩ = some (.pointer (some ⟨p.gq, 0, none⟩)) ∧ w'.cell? ⟨p.g, 8, none⟩ = some (.int .i64 m.now)) (first | exact ⟨v2, v8⟩ | exact ⟨x2, x8⟩ | go_keep) ((go_at_call 179; refine (woDepth m.now _ HN.u.drew).mono ?_; rintro e w2 ⟨rfl, hc⟩; have v2 := hc.1.at.here (i := 2) rfl; have v8 := hc.1.at.here (i := 8) rfl))
  all_goals
   have HY := J (At.kept HA1.u.drew hc.2 (.inr (.inr rfl)))
   have HZ0 := J (At.kept HA0.u.drew hc.2 (.inr (.inl rfl)))
   have HZ1 := HZ0
   have hz2 : w.heap.size + 2 ≤ w2.heap.size := by have := hc.2.size; simpa using this
   have hG := hc.1.grow ((G.Chg.refl (fun _ => False) w2).alloc (.cells #[.int .i64 (G.depthNum m.q m.now)] 3)) (fun _ h => h.elim)
   have hCh : G.Chg (fun b => ¬ R b) w (w2.alloc (.cells #[.int .i64 (G.depthNum m.q m.now)] 3)) := ((HC.u.mono fun _ _ h => h.elim).drew.trans (hc.2.mono fun _ _ h hR => h (.inl hR))).alloc _
   have hNew := G.At.made w2 3 #[.int .i64 (G.depthNum m.q m.now)]
   have HF := J (fun (wf : World) (hf : G.Chg (fun b => b = w.heap.size ∨ b = w.heap.size + 1) (w2.alloc (.cells #[.int .i64 (G.depthNum m.q m.now)] 3)) wf) => read_end (t := t) (A := some ⟨w2.heap.size, 0, none⟩) (cap := 1) (xs := [G.depthNum m.q m.now]) HR.u (Q := fun b => (b = w.heap.size ∨ b = w.heap.size + 1) ∨ (w2.heap.size ≤ b ∧ b < (w2.alloc (.cells #[.int .i64 (G.depthNum m.q m.now)] 3)).heap.size)) (by rw [HQa.u]; exact hG.mono fun b hb => by rcases hb with hb | hb | hb; exact .inl (.inl hb); exact .inl (.inr hb); exact .inr hb) (fun b hb => by rcases hb with (hb | hb) | hb <;> omega) hCh (.inl (.inl rfl)) (.inl (.inr rfl)) (fun _ => ⟨w2.heap.size, 0, rfl, ⟨.inr ⟨Nat.le_refl _, hNew.inside⟩, by omega, by omega⟩, hNew.inside, fun i y hi => by rcases i with _ | i; simp at hi; subst hi; exact hNew.here rfl; simp at hi⟩) (by simp) hf HE.u)
   have hzb : w.heap.size < w2.heap.size := by omega
   have hzc : w.heap.size + 1 < w2.heap.size := by omega
   clear hc hG hCh hNew v2 v8 k0 hz2
   have y0 := HY.u.here (i := 0) rfl
   have y1 := HY.u.here (i := 1) rfl
   have y2 := HY.u.soft 0
   have y3 := HY.u.soft 1
   have z0 := HZ0.u.here (i := 0) rfl
   have z1 := HZ0.u.here (i := 1) rfl
   have z2 := HZ0.u.soft 0
   have z3 := HZ0.u.soft 1
   clear HY HZ0
   have hA := (((HZ1.u.other (p := ⟨w.heap.size + 1, 1, none⟩) (show w.heap.size ≠ w.heap.size + 1 by omega) (.slice (some ⟨w2.heap.size, 0, none⟩) 1 1)).put 0 (.bool x)).put 1 (.slice (some ⟨w2.heap.size, 0, none⟩) 1 1)).alloc (.cells #[.int .i64 (G.depthNum m.q m.now)] 3)
   have HA := J hA
   clear hA
   go_wp2_with fail
   refine bodyPost_ret (v := .agg #[.bool x, .slice (some ⟨w2.heap.size, 0, none⟩) 1 1]) (by exact results_cell_row Tryz.results161 _ _ w.heap.size 264 _ (0, 0) _ rfl HA.u Tryz.underlying264 rfl (by kernel_rfl)) rfl (HF.u _ ?_)
   exact chg_alloc_both (three_puts _ _ _ _) (by simp [World.setCell]) _
 have hk2b : (t.kind == 2) = false := by simpa using hk2
 have HE := J (show (⟨x, []⟩ : Rd) = readOf t x m.t m.q m.now by unfold readOf; rw [if_neg hk1, if_neg hk2])
 have HQa := J (show qAfter [t] m.q m.now = m.q by unfold qAfter isDepth; simp [hk2])
 have HF := J (read_end (t := t) (A := none) (cap := 0) (xs := []) HR.u (Q := fun b => w.heap.size ≤ b ∧ b < ((w.alloc (.cells #[.bool x, .slice none 0 0] 264)).alloc (.cells #[.bool x, .slice none 0 0] 264)).heap.size) (by rw [HQa.u]; exact HH.u.grow (two_made w 264 (.bool x) #[.bool x, .slice none 0 0]) (fun _ h => h.elim)) (fun b hb => hb.1) ((two_made w 264 (.bool x) #[.bool x, .slice none 0 0]).mono fun _ _ h => h.elim) ⟨Nat.le_refl _, by simp only [World.size_alloc]; omega⟩ ⟨by omega, by simp only [World.size_alloc]; omega⟩ (fun h0 => by simp at h0) (by simp) (G.Chg.refl _ _) HE.u)
 clear hk1 hk2
 go_enter Tryz.func161, Tryz.ntmps161
 go_wp2_with fail
 refine bodyPost_ret (v := .agg #[.bool x, .slice none 0 0]) (by simp [results, Tryz.results161, go_sem]) rfl HF.u
open Go.RowKit
def LopRun (w0 : World) (top : Nat) (w : World) (g : Nat) (l : Lp) : Prop :=
 ∃ (gs : Nat) (vt vf vw vm : Value) (S1 S2 : Nat → Prop), LopAt 219 257 290 S1 S2 w g gs vt vf vw vm l ∧ (∀ b, S1 b ∨ S2 b → w0.heap.size ≤ b ∧ b < top) ∧ Below w0.heap.size w0 w
theorem LopRun.below {w0 w w' : World} {top g : Nat} {l : Lp} (h : LopRun w0 top w g l) (hb : Below w.heap.size w w') : LopRun w0 top w' g l := by
 obtain ⟨gs, vt, vf, vw, vm, S1, S2, h1, h2, h3⟩ := h
 exact ⟨gs, vt, vf, vw, vm, S1, S2, h1.below hb, h2, h3.trans (hb.mono h3.size)⟩
theorem LopRun.alloc {w0 w : World} {top g : Nat} {l : Lp} (h : LopRun w0 top w g l) (o : Obj) : LopRun w0 top (w.alloc o) g l := h.below ((Below.refl _ _).alloc (Nat.le_refl _) o)
theorem LopRun.drew {w0 w : World} {top g : Nat} {l : Lp} (h : LopRun w0 top w g l) : LopRun w0 top w.drew g l := h.below (Below.refl _ _).drew
theorem LopRun.u {w0 w : World} {top g : Nat} {l : Lp} (h : LopRun w0 top w g l) : Below w0.heap.size w0 w := by obtain ⟨_, _, _, _, _, _, _, _, _, h⟩ := h; exact h
theorem LopRun.top {w0 w : World} {top g : Nat} {l : Lp} (h : LopRun w0 top w g l) : LopRun w0 w.heap.size w g l := by
 obtain ⟨gs, vt, vf, vw, vm, S1, S2, h1, h2, h3⟩ := h
 exact ⟨gs, vt, vf, vw, vm, S1, S2, h1, fun b hb => ⟨(h2 b hb).1, hb.elim (h1.lim b) (h1.st.lim b)⟩, h3⟩
end Go.Proofs.YtoidcbpcnikejaaGreatDoor
