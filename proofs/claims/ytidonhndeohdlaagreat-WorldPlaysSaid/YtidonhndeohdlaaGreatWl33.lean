/- Parts of this claim: WldA, GloA, GloF. -/
import Derived.Test.YtidonhndeohdlaaGreatWlLopG
import Derived.Test.YtidonhndeohdlaaGreatWlWatN
import Derived.Test.YtidonhndeohdlaaGreatWl23
import Derived.Test.YtidonhndeohdlaaGreatWlFleS
set_option linter.unusedVariables false
set_option linter.unusedSimpArgs false
set_option maxRecDepth 100000
set_option maxHeartbeats 12800000
namespace Go.Proofs.YtidonhndeohdlaaGreat
open Go.RowKit
structure Wp where
 g : Nat
 gl : Nat
 gt : Nat
 gq : Nat
 gf : Nat
 gb : Nat
 vt : Value
 vf : Value
structure Wg where
 gs : Nat
 gp : Nat
 lt : Value
 lf : Value
 lw : Value
 lm : Value
 vq : Value
 vp : Value
 vb : Value
 P : Nat → Nat
theorem LopAt.mono {T TS TM : TypeId} {S1 S2 S1' S2' : Nat → Prop} {w : World} {g gs : Nat} {vt vf vw vm : Value} {l : Lp} (h : LopAt T TS TM S1 S2 w g gs vt vf vw vm l) (h1 : ∀ b, b < w.heap.size → S1 b → S1' b) (h2 : ∀ b, b < w.heap.size → S2 b → S2' b)
  (l1 : ∀ b, S1' b → b < w.heap.size) (l2 : ∀ b, S2' b → b < w.heap.size) (hd : ∀ b, S1' b → ¬ S2' b) : LopAt T TS TM S1' S2' w g gs vt vf vw vm l :=
 ⟨h.head, h.trg.mono h1, h.fls.mono h1, h.st.mono h2 l2, h1 g h.head.inside h.own, hd, l1⟩
structure WoIn (w : World) (p : Wp) (a : Wg) (m : Wo) : Prop where
 head : G.At w p.g 55 #[.pointer (some ⟨p.gl, 0, none⟩), .pointer (some ⟨p.gt, 0, none⟩), .pointer (some ⟨p.gq, 0, none⟩), .pointer (some ⟨p.gf, 0, none⟩), .pointer (some ⟨p.gb, 0, none⟩), p.vt, p.vf, .int .i64 m.sec, .int .i64 m.now, .int .i64 m.target]
 trg : G.OwnRow (fun b => a.P b = 1) w 63 17 p.vt m.l.p.trigs.length (m.l.p.trigs.flatMap Trg.enc)
 fls : G.OwnRow (fun b => a.P b = 1) w 4 1 p.vf m.fails.length (m.fails.map Value.bool)
 lp : LopAt 117 155 200 (fun b => a.P b = 2) (fun b => a.P b = 3) w p.gl a.gs a.lt a.lf a.lw a.lm m.l
 tp : TopicAt w p.gt a.gp m.t
 tp1 : a.P p.gt = 4
 tp2 : a.P a.gp = 4
 qu : QAt 122 (fun b => a.P b = 5) w p.gq a.vq m.q m.ql
 fl : FAt 124 (fun b => a.P b = 6) w p.gf a.vp m.f m.fl m.most
 bu : BAt 126 (fun b => a.P b = 7) w p.gb a.vb m.b
 own : a.P p.g = 1
 lim : ∀ b, a.P b ≠ 0 → b < w.heap.size
def paint (P : Nat → Nat) (i : Nat) (w w' : World) : Nat → Nat := fun b => if w.heap.size ≤ b ∧ b < w'.heap.size then i else P b
section
variable {w w' : World} {p : Wp} {a : Wg} {m : Wo} {C R : Nat → Prop} {i j : Nat}
theorem paint_old {P : Nat → Nat} {b : Nat} (h : b < w.heap.size) : paint P i w w' b = P b := by unfold paint; rw [if_neg (by omega)]
theorem paint_plus {P : Nat → Nat} (hl : ∀ b, P b ≠ 0 → b < w.heap.size) (hi : i ≠ 0) {b : Nat} (h : G.Plus (fun b => P b = i) w w' b) : paint P i w w' b = i := by
 unfold paint
 rcases h with h | h
 ·rw [if_neg (by have := hl b (by omega); omega)]; exact h
 rw [if_pos h]
theorem paint_lim {P : Nat → Nat} (hl : ∀ b, P b ≠ 0 → b < w.heap.size) (hz : w.heap.size ≤ w'.heap.size) {b : Nat} (h : paint P i w w' b ≠ 0) : b < w'.heap.size := by
 unfold paint at h
 split at h
 ·omega
 have := hl b h; omega
theorem paint_lt {P : Nat → Nat} (hl : ∀ b, P b ≠ 0 → b < w.heap.size) (hz : w.heap.size ≤ w'.heap.size) (hj : j ≠ 0) {b : Nat} (h : paint P i w w' b = j) : b < w'.heap.size := paint_lim (i := i) hl hz (by omega)
theorem paint_ne {P : Nat → Nat} (hl : ∀ b, P b ≠ 0 → b < w.heap.size) (hj : j ≠ 0) {b : Nat} (hb : b < w'.heap.size) (h : P b = j) : paint P i w w' b = j := by
 rw [paint_old (hl b (by omega))]; exact h
theorem WoIn.keep1 (h : WoIn w p a m) (i : Nat) (hc : G.Chg C w w') (hC : ∀ b, a.P b = 1 → ¬ C b) : G.At w' p.g 55 #[.pointer (some ⟨p.gl, 0, none⟩), .pointer (some ⟨p.gt, 0, none⟩), .pointer (some ⟨p.gq, 0, none⟩), .pointer (some ⟨p.gf, 0, none⟩), .pointer (some ⟨p.gb, 0, none⟩), p.vt, p.vf, .int .i64 m.sec, .int .i64 m.now, .int .i64 m.target]
  ∧ G.OwnRow (fun b => paint a.P i w w' b = 1) w' 63 17 p.vt m.l.p.trigs.length (m.l.p.trigs.flatMap Trg.enc) ∧ G.OwnRow (fun b => paint a.P i w w' b = 1) w' 4 1 p.vf m.fails.length (m.fails.map Value.bool) ∧ paint a.P i w w' p.g = 1 :=
 ⟨h.head.chg hc (hC _ h.own), (h.trg.chg hc hC).mono (fun b hb e => paint_ne h.lim (by omega) hb e), (h.fls.chg hc hC).mono (fun b hb e => paint_ne h.lim (by omega) hb e), (paint_old h.head.inside).trans h.own⟩
theorem WoIn.keep2 (h : WoIn w p a m) (i : Nat) (hc : G.Chg C w w') (h2 : ∀ b, a.P b = 2 → ¬ C b) (h3 : ∀ b, a.P b = 3 → ¬ C b) : LopAt 117 155 200 (fun b => paint a.P i w w' b = 2) (fun b => paint a.P i w w' b = 3) w' p.gl a.gs a.lt a.lf a.lw a.lm m.l :=
 (h.lp.chg hc h2 h3).mono (fun b hb e => paint_ne h.lim (by omega) hb e) (fun b hb e => paint_ne h.lim (by omega) hb e) (fun b e => paint_lt h.lim hc.size (by omega) e) (fun b e => paint_lt h.lim hc.size (by omega) e) (fun b (e1 : paint _ _ _ _ b = 2) (e2 : paint _ _ _ _ b = 3) => by omega)
theorem WoIn.keep4 (h : WoIn w p a m) (i : Nat) (hc : G.Chg C w w') (hC : ∀ b, a.P b = 4 → ¬ C b) : TopicAt w' p.gt a.gp m.t := h.tp.chg hc (hC _ h.tp1) (hC _ h.tp2)
theorem WoIn.keep4a (h : WoIn w p a m) (i : Nat) (w' : World) : paint a.P i w w' p.gt = 4 ∧ paint a.P i w w' a.gp = 4 := ⟨(paint_old h.tp.head.inside).trans h.tp1, (paint_old h.tp.parts.inside).trans h.tp2⟩
theorem WoIn.keep5 (h : WoIn w p a m) (i : Nat) (hc : G.Chg C w w') (hC : ∀ b, a.P b = 5 → ¬ C b) : QAt 122 (fun b => paint a.P i w w' b = 5) w' p.gq a.vq m.q m.ql :=
 (h.qu.chg hc hC).mono (fun b hb e => paint_ne h.lim (by omega) hb e) (fun b e => paint_lt h.lim hc.size (by omega) e)
theorem WoIn.keep6 (h : WoIn w p a m) (i : Nat) (hc : G.Chg C w w') (hC : ∀ b, a.P b = 6 → ¬ C b) : FAt 124 (fun b => paint a.P i w w' b = 6) w' p.gf a.vp m.f m.fl m.most :=
 (h.fl.chg hc hC).mono (fun b hb e => paint_ne h.lim (by omega) hb e) (fun b e => paint_lt h.lim hc.size (by omega) e)
theorem WoIn.keep7 (h : WoIn w p a m) (i : Nat) (hc : G.Chg C w w') (hC : ∀ b, a.P b = 7 → ¬ C b) : BAt 126 (fun b => paint a.P i w w' b = 7) w' p.gb a.vb m.b :=
 (h.bu.chg hc hC).mono (fun b hb e => paint_ne h.lim (by omega) hb e) (fun b e => paint_lt h.lim hc.size (by omega) e)
def WoN (R : Nat → Prop) (w : World) (p : Wp) (m : Wo) : Prop := ∃ a, WoIn w p a m ∧ ∀ b, R b → a.P b = 0 ∧ b < w.heap.size
def WoC (R : Nat → Prop) (w w' : World) (p : Wp) (m : Wo) : Prop := WoN R w' p m ∧ G.Chg (fun b => ¬ R b) w w'
theorem WoN.next {a' : Wg} {m' : Wo} (hR : ∀ b, R b → a.P b = 0 ∧ b < w.heap.size) (h' : WoIn w' p a' m') (i : Nat) (hP : a'.P = paint a.P i w w') (hi : G.Chg C w w') (hC : ∀ b, C b → a.P b ≠ 0) : WoC R w w' p m' :=
 ⟨⟨a', h', fun b hb => ⟨by rw [hP, paint_old (hR b hb).2]; exact (hR b hb).1, Nat.lt_of_lt_of_le (hR b hb).2 hi.size⟩⟩, hi.mono fun b _ hc hR' => hC b hc (hR b hR').1⟩
theorem WoN.next0 {a' : Wg} {m' : Wo} (hR : ∀ b, R b → a.P b = 0 ∧ b < w.heap.size) (h' : WoIn w' p a' m') (hP : a'.P = paint a.P 0 w w') (hi : G.Chg C w w') (hC : ∀ b, C b → a.P b ≠ 0) : WoN (fun b => R b ∨ (w.heap.size ≤ b ∧ b < w'.heap.size)) w' p m' ∧ G.Chg (fun b => ¬ R b) w w' :=
 ⟨⟨a', h', fun b hb => by
  rcases hb with hb | hb
  ·exact ⟨by rw [hP, paint_old (hR b hb).2]; exact (hR b hb).1, Nat.lt_of_lt_of_le (hR b hb).2 hi.size⟩
  exact ⟨by rw [hP]; unfold paint; rw [if_pos hb], hb.2⟩⟩, hi.mono fun b _ hc hR' => hC b hc (hR b hR').1⟩
theorem WoN.mono {R' : Nat → Prop} (h : WoN R w p m) (hs : ∀ b, R' b → R b) : WoN R' w p m := by
 obtain ⟨a, ha, hR⟩ := h
 exact ⟨a, ha, fun b hb => hR b (hs b hb)⟩
theorem WoN.grow (h : WoN R w p m) (hc : G.Chg C w w') (hC : ∀ b, C b → R b) : WoN (fun b => R b ∨ (w.heap.size ≤ b ∧ b < w'.heap.size)) w' p m := by
 obtain ⟨a, ha, hR⟩ := h
 have hn : ∀ k, k ≠ 0 → ∀ b, a.P b = k → ¬ C b := fun k hk b hb hcb => by have := (hR b (hC b hcb)).1; omega
 obtain ⟨k1, k2, k3, k4⟩ := ha.keep1 0 hc (hn 1 (by omega))
 obtain ⟨k5, k6⟩ := ha.keep4a 0 w'
 have hz := hc.size
 refine ⟨{ a with P := paint a.P 0 w w' }, ⟨k1, k2, k3, ha.keep2 0 hc (hn 2 (by omega)) (hn 3 (by omega)), ha.keep4 0 hc (hn 4 (by omega)), k5, k6, ha.keep5 0 hc (hn 5 (by omega)), ha.keep6 0 hc (hn 6 (by omega)), ha.keep7 0 hc (hn 7 (by omega)), k4, fun b hb => paint_lim ha.lim hc.size hb⟩, fun b hb => ?_⟩
 rcases hb with hb | hb
 ·exact ⟨(paint_old (hR b hb).2).trans (hR b hb).1, Nat.lt_of_lt_of_le (hR b hb).2 hz⟩
 exact ⟨by show paint a.P 0 w w' b = 0; unfold paint; rw [if_pos hb], hb.2⟩
theorem WoN.chg (h : WoN R w p m) (hc : G.Chg (fun _ => False) w w') : WoN R w' p m := (h.grow hc (fun _ h => h.elim)).mono fun _ h => .inl h
theorem WoN.lt (h : WoN R w p m) {b : Nat} (hb : R b) : b < w.heap.size := by obtain ⟨a, ha, hR⟩ := h; exact (hR b hb).2
theorem WoC.refl (h : WoN R w p m) : WoC R w w p m := ⟨h, G.Chg.refl _ _⟩
theorem WoC.trans {w1 w2 : World} {m' : Wo} (h : G.Chg (fun b => ¬ R b) w w1) (k : WoC R w1 w2 p m') : WoC R w w2 p m' := ⟨k.1, h.trans k.2⟩
theorem WoC.below {w1 : World} (h : WoC R w w1 p m) (hb : Below w1.heap.size w1 w') : WoC R w w' p m := ⟨h.1.chg (G.Chg.of_below hb (Nat.le_refl _)), h.2.trans (G.Chg.of_below hb (Nat.le_refl _))⟩
theorem At.kept {g : Nat} {T : TypeId} {cs : Array Value} (h : G.At w g T cs) (hc : G.Chg (fun b => ¬ R b) w w') (hR : R g) : G.At w' g T cs := h.chg hc (fun k => k hR)
theorem WoN.below (h : WoN R w p m) (hb : Below w.heap.size w w') : WoN R w' p m := h.chg (G.Chg.of_below hb (Nat.le_refl _))
theorem WoN.drew (h : WoN R w p m) : WoN R w.drew p m := h.chg (G.Chg.refl _ w).drew
theorem WoN.at (h : WoN R w p m) : G.At w p.g 55 #[.pointer (some ⟨p.gl, 0, none⟩), .pointer (some ⟨p.gt, 0, none⟩), .pointer (some ⟨p.gq, 0, none⟩), .pointer (some ⟨p.gf, 0, none⟩), .pointer (some ⟨p.gb, 0, none⟩), p.vt, p.vf, .int .i64 m.sec, .int .i64 m.now, .int .i64 m.target] := by obtain ⟨a, ha, _⟩ := h; exact ha.head
theorem WoN.queue {q' : List G.Msg} {ql' : Int} {v' : Value} (ha : WoIn w p a m) (hR : ∀ b, R b → a.P b = 0 ∧ b < w.heap.size) (hq : QAt 122 (G.Plus (fun b => a.P b = 5) w w') w' p.gq v' q' ql') (hc : G.Chg (fun b => a.P b = 5) w w') : WoC R w w' p { m with q := q', ql := ql' } := by
 obtain ⟨k1, k2, k3, k4⟩ := ha.keep1 5 hc (fun _ _ _ => by omega)
 obtain ⟨k5, k6⟩ := ha.keep4a 5 w'
 exact WoN.next hR (a' := { a with vq := v', P := paint a.P 5 w w' }) ⟨k1, k2, k3, ha.keep2 5 hc (fun _ _ _ => by omega) (fun _ _ _ => by omega), ha.keep4 5 hc (fun _ _ _ => by omega), k5, k6, hq.mono (fun b _ hb => paint_plus ha.lim (by omega) hb) (fun b e => paint_lt ha.lim hc.size (by omega) e), ha.keep6 5 hc (fun _ _ _ => by omega), ha.keep7 5 hc (fun _ _ _ => by omega), k4, fun b hb => paint_lim ha.lim hc.size hb⟩ 5 rfl hc (fun _ h => by omega)
theorem WoN.fleet {f' : List G.Pod} {fl' : Int} {v' : Value} (ha : WoIn w p a m) (hR : ∀ b, R b → a.P b = 0 ∧ b < w.heap.size) (hq : FAt 124 (G.Plus (fun b => a.P b = 6) w w') w' p.gf v' f' fl' m.most) (hc : G.Chg (fun b => a.P b = 6) w w') : WoC R w w' p { m with f := f', fl := fl' } := by
 obtain ⟨k1, k2, k3, k4⟩ := ha.keep1 6 hc (fun _ _ _ => by omega)
 obtain ⟨k5, k6⟩ := ha.keep4a 6 w'
 exact WoN.next hR (a' := { a with vp := v', P := paint a.P 6 w w' }) ⟨k1, k2, k3, ha.keep2 6 hc (fun _ _ _ => by omega) (fun _ _ _ => by omega), ha.keep4 6 hc (fun _ _ _ => by omega), k5, k6, ha.keep5 6 hc (fun _ _ _ => by omega), hq.mono (fun b _ hb => paint_plus ha.lim (by omega) hb) (fun b e => paint_lt ha.lim hc.size (by omega) e), ha.keep7 6 hc (fun _ _ _ => by omega), k4, fun b hb => paint_lim ha.lim hc.size hb⟩ 6 rfl hc (fun _ h => by omega)
theorem WoN.buffer {b' : List G.Req} {v' : Value} (ha : WoIn w p a m) (hR : ∀ b, R b → a.P b = 0 ∧ b < w.heap.size) (hq : BAt 126 (G.Plus (fun b => a.P b = 7) w w') w' p.gb v' b') (hc : G.Chg (fun b => a.P b = 7) w w') : WoC R w w' p { m with b := b' } := by
 obtain ⟨k1, k2, k3, k4⟩ := ha.keep1 7 hc (fun _ _ _ => by omega)
 obtain ⟨k5, k6⟩ := ha.keep4a 7 w'
 exact WoN.next hR (a' := { a with vb := v', P := paint a.P 7 w w' }) ⟨k1, k2, k3, ha.keep2 7 hc (fun _ _ _ => by omega) (fun _ _ _ => by omega), ha.keep4 7 hc (fun _ _ _ => by omega), k5, k6, ha.keep5 7 hc (fun _ _ _ => by omega), ha.keep6 7 hc (fun _ _ _ => by omega), hq.mono (fun b _ hb => paint_plus ha.lim (by omega) hb) (fun b e => paint_lt ha.lim hc.size (by omega) e), k4, fun b hb => paint_lim ha.lim hc.size hb⟩ 7 rfl hc (fun _ h => by omega)
theorem WoN.topic {t' : List (Int × Int)} (ha : WoIn w p a m) (hR : ∀ b, R b → a.P b = 0 ∧ b < w.heap.size) (hq : TopicAt w' p.gt a.gp t') (hc : G.Chg (· = a.gp) w w') : WoC R w w' p { m with t := t' } := by
 have hgp := ha.tp2
 obtain ⟨k1, k2, k3, k4⟩ := ha.keep1 4 hc (fun b hb e => by subst e; omega)
 obtain ⟨k5, k6⟩ := ha.keep4a 4 w'
 exact WoN.next hR (a' := { a with P := paint a.P 4 w w' }) ⟨k1, k2, k3, ha.keep2 4 hc (fun b hb e => by subst e; omega) (fun b hb e => by subst e; omega), hq, k5, k6, ha.keep5 4 hc (fun b hb e => by subst e; omega), ha.keep6 4 hc (fun b hb e => by subst e; omega), ha.keep7 4 hc (fun b hb e => by subst e; omega), k4, fun b hb => paint_lim ha.lim hc.size hb⟩ 4 rfl hc (fun b e => by subst e; omega)
theorem WoN.loop {l' : Lp} {lw' lm' : Value} (ha : WoIn w p a m) (hR : ∀ b, R b → a.P b = 0 ∧ b < w.heap.size) (hp : l'.p = m.l.p)
  (hq : LopAt 117 155 200 (fun b => a.P b = 2) (G.Plus (fun b => a.P b = 3) w w') w' p.gl a.gs a.lt a.lf lw' lm' l') (hc : G.Chg (fun b => a.P b = 2 ∨ a.P b = 3) w w') : WoC R w w' p { m with l := l' } := by
 obtain ⟨k1, k2, k3, k4⟩ := ha.keep1 3 hc (fun _ _ _ => by omega)
 obtain ⟨k5, k6⟩ := ha.keep4a 3 w'
 rw [← hp] at k2
 exact WoN.next hR (a' := { a with lw := lw', lm := lm', P := paint a.P 3 w w' }) ⟨k1, k2, k3, hq.mono (fun b hb e => paint_ne ha.lim (by omega) hb e) (fun b _ hb => paint_plus ha.lim (by omega) hb) (fun b e => paint_lt ha.lim hc.size (by omega) e) (fun b e => paint_lt ha.lim hc.size (by omega) e) (fun b (e1 : paint _ _ _ _ b = 2) (e2 : paint _ _ _ _ b = 3) => by omega), ha.keep4 3 hc (fun _ _ _ => by omega), k5, k6, ha.keep5 3 hc (fun _ _ _ => by omega), ha.keep6 3 hc (fun _ _ _ => by omega), ha.keep7 3 hc (fun _ _ _ => by omega), k4, fun b hb => paint_lim ha.lim hc.size hb⟩ 3 rfl hc (fun _ h => by omega)
theorem WoN.head (h : WoN R w p m) (k : Nat) (u : Value) (n' t' : Int)
  (hu : (#[.pointer (some ⟨p.gl, 0, none⟩), .pointer (some ⟨p.gt, 0, none⟩), .pointer (some ⟨p.gq, 0, none⟩), .pointer (some ⟨p.gf, 0, none⟩), .pointer (some ⟨p.gb, 0, none⟩), p.vt, p.vf, .int .i64 m.sec, .int .i64 m.now, .int .i64 m.target] : Array Value).setIfInBounds k u = #[.pointer (some ⟨p.gl, 0, none⟩), .pointer (some ⟨p.gt, 0, none⟩), .pointer (some ⟨p.gq, 0, none⟩), .pointer (some ⟨p.gf, 0, none⟩), .pointer (some ⟨p.gb, 0, none⟩), p.vt, p.vf, .int .i64 m.sec, .int .i64 n', .int .i64 t']) : WoC R w (w.setCell ⟨p.g, k, none⟩ u) p { m with now := n', target := t' } := by
 obtain ⟨a, ha, hR⟩ := h
 have hown := ha.own
 have hc : G.Chg (· = p.g) w (w.setCell ⟨p.g, k, none⟩ u) := (G.Chg.refl (· = p.g) w).put (p := ⟨p.g, k, none⟩) (.inl rfl) u
 have hh := ha.head.put k u
 rw [hu] at hh
 have t1 := ha.trg.aside (p := ⟨p.g, k, none⟩) (ha.trg.apartAt ha.head (by decide)) u
 have t2 := ha.fls.aside (p := ⟨p.g, k, none⟩) (ha.fls.apartAt ha.head (by decide)) u
 obtain ⟨k5, k6⟩ := ha.keep4a 1 (w.setCell ⟨p.g, k, none⟩ u)
 exact WoN.next hR (a' := { a with P := paint a.P 1 w (w.setCell ⟨p.g, k, none⟩ u) }) ⟨hh, t1.mono (fun b hb e => paint_ne ha.lim (by omega) hb e), t2.mono (fun b hb e => paint_ne ha.lim (by omega) hb e), ha.keep2 1 hc (fun b hb e => by subst e; omega) (fun b hb e => by subst e; omega), ha.keep4 1 hc (fun b hb e => by subst e; omega), k5, k6, ha.keep5 1 hc (fun b hb e => by subst e; omega), ha.keep6 1 hc (fun b hb e => by subst e; omega), ha.keep7 1 hc (fun b hb e => by subst e; omega), (paint_old ha.head.inside).trans ha.own, fun b hb => paint_lim ha.lim hc.size hb⟩ 1 rfl hc (fun b e => by subst e; omega)
theorem WoN.trigs (h : WoN R w p m) : G.ListIn w 17 Trg.enc p.vt m.l.p.trigs := by obtain ⟨a, ha, _⟩ := h; exact ha.trg.list Trg.enc_length
theorem WoN.failv (h : WoN R w p m) : ∃ A cap, p.vf = .slice A m.fails.length cap ∧ (0 < m.fails.length → ∃ b, A = some ⟨b, 0, none⟩ ∧ b < w.heap.size ∧ ¬ R b ∧ b ≠ p.g ∧ ∀ (i : Nat) (x : Bool), m.fails[i]? = some x → w.cell? ⟨b, i, none⟩ = some (.bool x) ∧ w.frozen? ⟨b, i, none⟩ = false) := by
 obtain ⟨a, ha, hR⟩ := h
 obtain ⟨A, cap, e, _, _, hA⟩ := ha.fls.slice
 refine ⟨A, cap, e, fun h0 => ?_⟩
 obtain ⟨b, e1, hS, hr⟩ := hA h0
 have hS' : a.P b = 1 := hS
 refine ⟨b, e1, hr.inside, fun h => by have := (hR b h).1; omega, ha.fls.apartAt ha.head (by decide) b (by rw [e, e1]; rfl), fun i x hx => ⟨hr.cell (by rw [List.getElem?_map, hx]; rfl), hr.soft i⟩⟩
theorem WoN.failSet {b n cap : Nat} (h : WoN R w p m) (e : p.vf = .slice (some ⟨b, 0, none⟩) n cap) {i : Nat} (hi : i < m.fails.length) (x : Bool) : WoC R w (w.setCell ⟨b, i, none⟩ (.bool x)) p { m with fails := m.fails.set i x } := by
 obtain ⟨a, ha, hR⟩ := h
 have hf := ha.fls
 have hn : n = m.fails.length := by have := hf.slice; obtain ⟨A, c, e2, _⟩ := this; rw [e] at e2; cases e2; rfl
 subst hn
 have hb1 : a.P b = 1 := (hf.block b (by rw [e]; rfl)).1
 have hbg : b ≠ p.g := hf.apartAt ha.head (by decide) b (by rw [e]; rfl)
 have hbt : ∀ g, p.vt.ownBlock = some g → g ≠ b := fun g hg => by
  rintro rfl
  rw [e] at hf
  obtain ⟨g2, c2, e3, _, _, _, r2⟩ := hf.form (by omega)
  cases e3
  obtain ⟨cur, hcur, _⟩ := r2
  exact ha.trg.apartAt hcur (by decide) g hg rfl
 have hc : G.Chg (· = b) w (w.setCell ⟨b, i, none⟩ (.bool x)) := (G.Chg.refl (· = b) w).put (p := ⟨b, i, none⟩) (.inl rfl) _
 have hne : ∀ k, k ≠ 1 → ∀ g, a.P g = k → ¬ g = b := fun k hk g hg eg => by subst eg; omega
 have f' : G.OwnRow (fun b => a.P b = 1) (w.setCell ⟨b, i, none⟩ (.bool x)) 4 1 p.vf m.fails.length ((m.fails.set i x).map Value.bool) := by
  rw [e] at hf ⊢
  have := hf.put (i := i) (by rw [List.length_map]; exact hi) (.bool x)
  rw [List.map_set]; exact this
 obtain ⟨k5, k6⟩ := ha.keep4a 1 (w.setCell ⟨b, i, none⟩ (.bool x))
 refine WoN.next hR (a' := { a with P := paint a.P 1 w (w.setCell ⟨b, i, none⟩ (.bool x)) }) ⟨ha.head.other (p := ⟨b, i, none⟩) (Ne.symm hbg) _, ?_, ?_, ha.keep2 1 hc (hne 2 (by omega)) (hne 3 (by omega)), ha.keep4 1 hc (hne 4 (by omega)), k5, k6, ha.keep5 1 hc (hne 5 (by omega)), ha.keep6 1 hc (hne 6 (by omega)), ha.keep7 1 hc (hne 7 (by omega)), (paint_old ha.head.inside).trans ha.own, fun b hb => paint_lim ha.lim hc.size hb⟩ 1 rfl hc (fun g eg => by subst eg; omega)
 ·exact (ha.trg.aside (p := ⟨b, i, none⟩) hbt _).mono (fun g hg eg => paint_ne ha.lim (by omega) hg eg)
 show G.OwnRow _ _ _ _ _ (m.fails.set i x).length _
 rw [List.length_set]
 exact f'.mono (fun g hg eg => paint_ne ha.lim (by omega) hg eg)
end
open Go.RowKit
structure Gg where
 gs : Nat
 gp : Nat
 gr : Nat
 lf : Value
 lw : Value
 lm : Value
 vq : Value
 vp : Value
 vb : Value
 P : Nat → Nat
def gloC (p : Wp) (m : Wo) : Array Value := #[.pointer (some ⟨p.gl, 0, none⟩), .pointer (some ⟨p.gt, 0, none⟩), .pointer (some ⟨p.gq, 0, none⟩), .pointer (some ⟨p.gf, 0, none⟩), .pointer (some ⟨p.gb, 0, none⟩), p.vf, .int .i64 m.sec, .int .i64 m.now, .int .i64 m.target, .int .i64 0, .int .i64 0]
theorem WatAt.mono {RT S1 S2 S1' S2' : Nat → Prop} {w : World} {g gs : Nat} {vt vf vw vm : Value} {l : Lp} (h : WatAt RT S1 S2 w g gs vt vf vw vm l) (h1 : ∀ b, b < w.heap.size → S1 b → S1' b) (h2 : ∀ b, b < w.heap.size → S2 b → S2' b)
  (l1 : ∀ b, S1' b → b < w.heap.size) (l2 : ∀ b, S2' b → b < w.heap.size) (hd : ∀ b, S1' b → ¬ S2' b) (hr : ∀ b, RT b → ¬ S1' b ∧ ¬ S2' b) : WatAt RT S1' S2' w g gs vt vf vw vm l :=
 ⟨h.head, h.trg, h.fls.mono h1, h.st.mono h2 l2, h1 g h.head.inside h.own, hd, l1, hr⟩
structure GloIn (RT : Nat → Prop) (w : World) (p : Wp) (a : Gg) (m : Wo) : Prop where
 head : G.At w p.g 84 (gloC p m)
 fls : G.OwnRow (fun b => a.P b = 1) w 4 1 p.vf m.fails.length (m.fails.map Value.bool)
 lp : WatAt RT (fun b => a.P b = 2) (fun b => a.P b = 3) w p.gl a.gs p.vt a.lf a.lw a.lm m.l
 tp : BoardAt w p.gt a.gp a.gr m.t
 tp1 : a.P p.gt = 4
 tp2 : a.P a.gp = 4
 tp3 : a.P a.gr = 4
 qu : QAt 74 (fun b => a.P b = 5) w p.gq a.vq m.q m.ql
 fl : FAt 78 (fun b => a.P b = 6) w p.gf a.vp m.f m.fl m.most
 bu : BAt 82 (fun b => a.P b = 7) w p.gb a.vb m.b
 own : a.P p.g = 1
 lim : ∀ b, a.P b ≠ 0 → b < w.heap.size
 rt : ∀ b, RT b → a.P b = 0 ∧ b < w.heap.size
section
variable {RT R C : Nat → Prop} {w w' : World} {p : Wp} {a : Gg} {m : Wo} {i j : Nat}
theorem GloIn.keep1 (h : GloIn RT w p a m) (i : Nat) (hc : G.Chg C w w') (hC : ∀ b, a.P b = 1 → ¬ C b) : G.At w' p.g 84 (gloC p m) ∧ G.OwnRow (fun b => paint a.P i w w' b = 1) w' 4 1 p.vf m.fails.length (m.fails.map Value.bool) ∧ paint a.P i w w' p.g = 1 :=
 ⟨h.head.chg hc (hC _ h.own), (h.fls.chg hc hC).mono (fun b hb e => paint_ne h.lim (by omega) hb e), (paint_old h.head.inside).trans h.own⟩
theorem GloIn.keep0 (h : GloIn RT w p a m) (i : Nat) (hc : G.Chg C w w') : ∀ b, RT b → paint a.P i w w' b = 0 ∧ b < w'.heap.size := fun b hb => ⟨(paint_old (h.rt b hb).2).trans (h.rt b hb).1, Nat.lt_of_lt_of_le (h.rt b hb).2 hc.size⟩
theorem GloIn.keep2 (h : GloIn RT w p a m) (i : Nat) (hc : G.Chg C w w') (h0 : ∀ b, a.P b = 0 → b < w.heap.size → ¬ C b) (h2 : ∀ b, a.P b = 2 → ¬ C b) (h3 : ∀ b, a.P b = 3 → ¬ C b) : WatAt RT (fun b => paint a.P i w w' b = 2) (fun b => paint a.P i w w' b = 3) w' p.gl a.gs p.vt a.lf a.lw a.lm m.l :=
 (h.lp.chg hc (fun b hb => h0 b (h.rt b hb).1 (h.rt b hb).2) h2 h3).mono (fun b hb e => paint_ne h.lim (by omega) hb e) (fun b hb e => paint_ne h.lim (by omega) hb e) (fun b e => paint_lt h.lim hc.size (by omega) e) (fun b e => paint_lt h.lim hc.size (by omega) e) (fun b (e1 : paint _ _ _ _ b = 2) (e2 : paint _ _ _ _ b = 3) => by omega)
  (fun b hb => ⟨fun (e : paint _ _ _ _ b = 2) => by have := (h.keep0 i hc b hb).1; omega, fun (e : paint _ _ _ _ b = 3) => by have := (h.keep0 i hc b hb).1; omega⟩)
theorem GloIn.keep4 (h : GloIn RT w p a m) (i : Nat) (hc : G.Chg C w w') (hC : ∀ b, a.P b = 4 → ¬ C b) : BoardAt w' p.gt a.gp a.gr m.t := h.tp.chg hc (hC _ h.tp1) (hC _ h.tp2) (hC _ h.tp3)
theorem GloIn.keep4a (h : GloIn RT w p a m) (i : Nat) (w' : World) : paint a.P i w w' p.gt = 4 ∧ paint a.P i w w' a.gp = 4 ∧ paint a.P i w w' a.gr = 4 := ⟨(paint_old h.tp.head.inside).trans h.tp1, (paint_old h.tp.ends.inside).trans h.tp2, (paint_old h.tp.offs.inside).trans h.tp3⟩
theorem GloIn.keep5 (h : GloIn RT w p a m) (i : Nat) (hc : G.Chg C w w') (hC : ∀ b, a.P b = 5 → ¬ C b) : QAt 74 (fun b => paint a.P i w w' b = 5) w' p.gq a.vq m.q m.ql :=
 (h.qu.chg hc hC).mono (fun b hb e => paint_ne h.lim (by omega) hb e) (fun b e => paint_lt h.lim hc.size (by omega) e)
theorem GloIn.keep6 (h : GloIn RT w p a m) (i : Nat) (hc : G.Chg C w w') (hC : ∀ b, a.P b = 6 → ¬ C b) : FAt 78 (fun b => paint a.P i w w' b = 6) w' p.gf a.vp m.f m.fl m.most :=
 (h.fl.chg hc hC).mono (fun b hb e => paint_ne h.lim (by omega) hb e) (fun b e => paint_lt h.lim hc.size (by omega) e)
theorem GloIn.keep7 (h : GloIn RT w p a m) (i : Nat) (hc : G.Chg C w w') (hC : ∀ b, a.P b = 7 → ¬ C b) : BAt 82 (fun b => paint a.P i w w' b = 7) w' p.gb a.vb m.b :=
 (h.bu.chg hc hC).mono (fun b hb e => paint_ne h.lim (by omega) hb e) (fun b e => paint_lt h.lim hc.size (by omega) e)
theorem GloIn.turn (h : GloIn RT w p a m) (i : Nat) (hc : G.Chg C w w') (hC : ∀ b, C b → a.P b = 0) (hR : ∀ b, RT b → ¬ C b) : GloIn RT w' p { a with P := paint a.P i w w' } m := by
 have hn : ∀ k, k ≠ 0 → ∀ b, a.P b = k → ¬ C b := fun k hk b hb hcb => by have := hC b hcb; omega
 obtain ⟨k1, k2, k3⟩ := h.keep1 i hc (hn 1 (by omega))
 obtain ⟨k5, k6, k7⟩ := h.keep4a i w'
 refine ⟨k1, k2, ?_, h.keep4 i hc (hn 4 (by omega)), k5, k6, k7, h.keep5 i hc (hn 5 (by omega)), h.keep6 i hc (hn 6 (by omega)), h.keep7 i hc (hn 7 (by omega)), k3, fun b hb => paint_lim h.lim hc.size hb, h.keep0 i hc⟩
 exact (h.lp.chg hc hR (hn 2 (by omega)) (hn 3 (by omega))).mono (fun b hb e => paint_ne h.lim (by omega) hb e) (fun b hb e => paint_ne h.lim (by omega) hb e) (fun b e => paint_lt h.lim hc.size (by omega) e) (fun b e => paint_lt h.lim hc.size (by omega) e) (fun b (e1 : paint _ _ _ _ b = 2) (e2 : paint _ _ _ _ b = 3) => by omega)
  (fun b hb => ⟨fun (e : paint _ _ _ _ b = 2) => by have := (h.keep0 i hc b hb).1; omega, fun (e : paint _ _ _ _ b = 3) => by have := (h.keep0 i hc b hb).1; omega⟩)
def GloN (RT R : Nat → Prop) (w : World) (p : Wp) (m : Wo) : Prop := ∃ a, GloIn RT w p a m ∧ ∀ b, R b → a.P b = 0 ∧ b < w.heap.size
def GloK (RT R : Nat → Prop) (w w' : World) (p : Wp) (m : Wo) : Prop := GloN RT R w' p m ∧ G.Chg (fun b => ¬ R b) w w'
theorem GloN.next {a' : Gg} {m' : Wo} (hR : ∀ b, R b → a.P b = 0 ∧ b < w.heap.size) (h' : GloIn RT w' p a' m') (i : Nat) (hP : a'.P = paint a.P i w w') (hi : G.Chg C w w') (hC : ∀ b, C b → a.P b ≠ 0) : GloK RT R w w' p m' :=
 ⟨⟨a', h', fun b hb => ⟨by rw [hP, paint_old (hR b hb).2]; exact (hR b hb).1, Nat.lt_of_lt_of_le (hR b hb).2 hi.size⟩⟩, hi.mono fun b _ hc hR' => hC b hc (hR b hR').1⟩
theorem GloN.mono {R' : Nat → Prop} (h : GloN RT R w p m) (hs : ∀ b, R' b → R b) : GloN RT R' w p m := by
 obtain ⟨a, ha, hR⟩ := h
 exact ⟨a, ha, fun b hb => hR b (hs b hb)⟩
theorem GloN.grow (h : GloN RT R w p m) (hc : G.Chg C w w') (hC : ∀ b, C b → R b) (hT : ∀ b, RT b → ¬ C b) : GloN RT (fun b => R b ∨ (w.heap.size ≤ b ∧ b < w'.heap.size)) w' p m := by
 obtain ⟨a, ha, hR⟩ := h
 refine ⟨_, ha.turn 0 hc (fun b hb => (hR b (hC b hb)).1) hT, fun b hb => ?_⟩
 rcases hb with hb | hb
 ·exact ⟨(paint_old (hR b hb).2).trans (hR b hb).1, Nat.lt_of_lt_of_le (hR b hb).2 hc.size⟩
 exact ⟨by show paint a.P 0 w w' b = 0; unfold paint; rw [if_pos hb], hb.2⟩
theorem GloN.chg (h : GloN RT R w p m) (hc : G.Chg (fun _ => False) w w') : GloN RT R w' p m := (h.grow hc (fun _ h => h.elim) (fun _ _ h => h)).mono fun _ h => .inl h
theorem GloN.lt (h : GloN RT R w p m) {b : Nat} (hb : R b) : b < w.heap.size := by obtain ⟨a, ha, hR⟩ := h; exact (hR b hb).2
theorem GloK.refl (h : GloN RT R w p m) : GloK RT R w w p m := ⟨h, G.Chg.refl _ _⟩
theorem GloK.trans {w1 w2 : World} {m' : Wo} (h : G.Chg (fun b => ¬ R b) w w1) (k : GloK RT R w1 w2 p m') : GloK RT R w w2 p m' := ⟨k.1, h.trans k.2⟩
theorem GloK.below {w1 : World} (h : GloK RT R w w1 p m) (hb : Below w1.heap.size w1 w') : GloK RT R w w' p m := ⟨h.1.chg (G.Chg.of_below hb (Nat.le_refl _)), h.2.trans (G.Chg.of_below hb (Nat.le_refl _))⟩
theorem GloN.below (h : GloN RT R w p m) (hb : Below w.heap.size w w') : GloN RT R w' p m := h.chg (G.Chg.of_below hb (Nat.le_refl _))
theorem GloN.drew (h : GloN RT R w p m) : GloN RT R w.drew p m := h.chg (G.Chg.refl _ w).drew
theorem GloN.at (h : GloN RT R w p m) : G.At w p.g 84 #[.pointer (some ⟨p.gl, 0, none⟩), .pointer (some ⟨p.gt, 0, none⟩), .pointer (some ⟨p.gq, 0, none⟩), .pointer (some ⟨p.gf, 0, none⟩), .pointer (some ⟨p.gb, 0, none⟩), p.vf, .int .i64 m.sec, .int .i64 m.now, .int .i64 m.target, .int .i64 0, .int .i64 0] := by obtain ⟨a, ha, _⟩ := h; exact ha.head
theorem GloN.rtIn (h : GloN RT R w p m) : TrgIn RT w p.vt m.l.p.trigs := by obtain ⟨a, ha, _⟩ := h; exact ha.lp.trg
theorem GloN.queue {q' : List G.Msg} {ql' : Int} {v' : Value} (ha : GloIn RT w p a m) (hR : ∀ b, R b → a.P b = 0 ∧ b < w.heap.size) (hq : QAt 74 (G.Plus (fun b => a.P b = 5) w w') w' p.gq v' q' ql') (hc : G.Chg (fun b => a.P b = 5) w w') : GloK RT R w w' p { m with q := q', ql := ql' } := by
 obtain ⟨k1, k2, k3⟩ := ha.keep1 5 hc (fun b hb e => by omega)
 obtain ⟨k5, k6, k7⟩ := ha.keep4a 5 w'
 exact GloN.next hR (a' := { a with vq := v', P := paint a.P 5 w w' }) ⟨k1, k2, ha.keep2 5 hc (fun b hb _ e => by omega) (fun b hb e => by omega) (fun b hb e => by omega), ha.keep4 5 hc (fun b hb e => by omega), k5, k6, k7, hq.mono (fun b _ hb => paint_plus ha.lim (by omega) hb) (fun b e => paint_lt ha.lim hc.size (by omega) e), ha.keep6 5 hc (fun b hb e => by omega), ha.keep7 5 hc (fun b hb e => by omega), k3, fun b hb => paint_lim ha.lim hc.size hb, ha.keep0 5 hc⟩ 5 rfl hc (fun b hb e => by omega)
theorem GloN.fleet {f' : List G.Pod} {fl' : Int} {v' : Value} (ha : GloIn RT w p a m) (hR : ∀ b, R b → a.P b = 0 ∧ b < w.heap.size) (hq : FAt 78 (G.Plus (fun b => a.P b = 6) w w') w' p.gf v' f' fl' m.most) (hc : G.Chg (fun b => a.P b = 6) w w') : GloK RT R w w' p { m with f := f', fl := fl' } := by
 obtain ⟨k1, k2, k3⟩ := ha.keep1 6 hc (fun b hb e => by omega)
 obtain ⟨k5, k6, k7⟩ := ha.keep4a 6 w'
 exact GloN.next hR (a' := { a with vp := v', P := paint a.P 6 w w' }) ⟨k1, k2, ha.keep2 6 hc (fun b hb _ e => by omega) (fun b hb e => by omega) (fun b hb e => by omega), ha.keep4 6 hc (fun b hb e => by omega), k5, k6, k7, ha.keep5 6 hc (fun b hb e => by omega), hq.mono (fun b _ hb => paint_plus ha.lim (by omega) hb) (fun b e => paint_lt ha.lim hc.size (by omega) e), ha.keep7 6 hc (fun b hb e => by omega), k3, fun b hb => paint_lim ha.lim hc.size hb, ha.keep0 6 hc⟩ 6 rfl hc (fun b hb e => by omega)
theorem GloN.buffer {b' : List G.Req} {v' : Value} (ha : GloIn RT w p a m) (hR : ∀ b, R b → a.P b = 0 ∧ b < w.heap.size) (hq : BAt 82 (G.Plus (fun b => a.P b = 7) w w') w' p.gb v' b') (hc : G.Chg (fun b => a.P b = 7) w w') : GloK RT R w w' p { m with b := b' } := by
 obtain ⟨k1, k2, k3⟩ := ha.keep1 7 hc (fun b hb e => by omega)
 obtain ⟨k5, k6, k7⟩ := ha.keep4a 7 w'
 exact GloN.next hR (a' := { a with vb := v', P := paint a.P 7 w w' }) ⟨k1, k2, ha.keep2 7 hc (fun b hb _ e => by omega) (fun b hb e => by omega) (fun b hb e => by omega), ha.keep4 7 hc (fun b hb e => by omega), k5, k6, k7, ha.keep5 7 hc (fun b hb e => by omega), ha.keep6 7 hc (fun b hb e => by omega), hq.mono (fun b _ hb => paint_plus ha.lim (by omega) hb) (fun b e => paint_lt ha.lim hc.size (by omega) e), k3, fun b hb => paint_lim ha.lim hc.size hb, ha.keep0 7 hc⟩ 7 rfl hc (fun b hb e => by omega)
theorem GloN.topic {t' : List (Int × Int)} (ha : GloIn RT w p a m) (hR : ∀ b, R b → a.P b = 0 ∧ b < w.heap.size) (hq : BoardAt w' p.gt a.gp a.gr t') (hc : G.Chg (fun b => a.P b = 4) w w') : GloK RT R w w' p { m with t := t' } := by
 obtain ⟨k1, k2, k3⟩ := ha.keep1 4 hc (fun b hb e => by omega)
 obtain ⟨k5, k6, k7⟩ := ha.keep4a 4 w'
 exact GloN.next hR (a' := { a with P := paint a.P 4 w w' }) ⟨k1, k2, ha.keep2 4 hc (fun b hb _ e => by omega) (fun b hb e => by omega) (fun b hb e => by omega), hq, k5, k6, k7, ha.keep5 4 hc (fun b hb e => by omega), ha.keep6 4 hc (fun b hb e => by omega), ha.keep7 4 hc (fun b hb e => by omega), k3, fun b hb => paint_lim ha.lim hc.size hb, ha.keep0 4 hc⟩ 4 rfl hc (fun b hb e => by omega)
theorem GloN.loop {l' : Lp} {lw' lm' : Value} (ha : GloIn RT w p a m) (hR : ∀ b, R b → a.P b = 0 ∧ b < w.heap.size) (hq : WatAt RT (fun b => a.P b = 2) (G.Plus (fun b => a.P b = 3) w w') w' p.gl a.gs p.vt a.lf lw' lm' l') (hc : G.Chg (fun b => a.P b = 2 ∨ a.P b = 3) w w') : GloK RT R w w' p { m with l := l' } := by
 obtain ⟨k1, k2, k3⟩ := ha.keep1 3 hc (fun b hb e => by omega)
 obtain ⟨k5, k6, k7⟩ := ha.keep4a 3 w'
 exact GloN.next hR (a' := { a with lw := lw', lm := lm', P := paint a.P 3 w w' }) ⟨k1, k2, hq.mono (fun b hb e => paint_ne ha.lim (by omega) hb e) (fun b _ hb => paint_plus ha.lim (by omega) hb) (fun b e => paint_lt ha.lim hc.size (by omega) e) (fun b e => paint_lt ha.lim hc.size (by omega) e) (fun b (e1 : paint _ _ _ _ b = 2) (e2 : paint _ _ _ _ b = 3) => by omega) (fun b hb => ⟨fun (e : paint _ _ _ _ b = 2) => by have := (ha.keep0 3 hc b hb).1; omega, fun (e : paint _ _ _ _ b = 3) => by have := (ha.keep0 3 hc b hb).1; omega⟩), ha.keep4 3 hc (fun b hb e => by omega), k5, k6, k7, ha.keep5 3 hc (fun b hb e => by omega), ha.keep6 3 hc (fun b hb e => by omega), ha.keep7 3 hc (fun b hb e => by omega), k3, fun b hb => paint_lim ha.lim hc.size hb, ha.keep0 3 hc⟩ 3 rfl hc (fun b hb e => by omega)
theorem GloN.put (h : GloN RT R w p m) (k : Nat) (u : Value) {m' : Wo} (hu : (gloC p m).setIfInBounds k u = gloC p m') (h1 : m'.fails = m.fails) (h2 : m'.l = m.l) (h3 : m'.t = m.t) (h4 : m'.q = m.q) (h5 : m'.ql = m.ql) (h6 : m'.f = m.f) (h7 : m'.fl = m.fl) (h8 : m'.most = m.most) (h9 : m'.b = m.b) : GloK RT R w (w.setCell ⟨p.g, k, none⟩ u) p m' := by
 obtain ⟨a, ha, hR⟩ := h
 have hown := ha.own
 have hc : G.Chg (· = p.g) w (w.setCell ⟨p.g, k, none⟩ u) := (G.Chg.refl (· = p.g) w).put (p := ⟨p.g, k, none⟩) (.inl rfl) u
 have hh := ha.head.put k u
 rw [hu] at hh
 have t2 := ha.fls.aside (p := ⟨p.g, k, none⟩) (ha.fls.apartAt ha.head (by decide)) u
 obtain ⟨k5, k6, k7⟩ := ha.keep4a 1 (w.setCell ⟨p.g, k, none⟩ u)
 refine GloN.next hR (a' := { a with P := paint a.P 1 w (w.setCell ⟨p.g, k, none⟩ u) }) ⟨hh, by rw [h1]; exact t2.mono (fun b hb e => paint_ne ha.lim (by omega) hb e), by rw [h2]; exact ha.keep2 1 hc (fun b hb _ e => by subst e; omega) (fun b hb e => by subst e; omega) (fun b hb e => by subst e; omega), by rw [h3]; exact ha.keep4 1 hc (fun b hb e => by subst e; omega), k5, k6, k7,
  by rw [h4, h5]; exact ha.keep5 1 hc (fun b hb e => by subst e; omega), by rw [h6, h7, h8]; exact ha.keep6 1 hc (fun b hb e => by subst e; omega), by rw [h9]; exact ha.keep7 1 hc (fun b hb e => by subst e; omega), (paint_old ha.head.inside).trans hown, fun b hb => paint_lim ha.lim hc.size hb, ha.keep0 1 hc⟩ 1 rfl hc (fun b hb e => by subst hb; omega)
theorem GloN.failv (h : GloN RT R w p m) : ∃ A cap, p.vf = .slice A m.fails.length cap ∧ (0 < m.fails.length → ∃ b, A = some ⟨b, 0, none⟩ ∧ b < w.heap.size ∧ ¬ R b ∧ b ≠ p.g ∧ ∀ (i : Nat) (x : Bool), m.fails[i]? = some x → w.cell? ⟨b, i, none⟩ = some (.bool x) ∧ w.frozen? ⟨b, i, none⟩ = false) := by
 obtain ⟨a, ha, hR⟩ := h
 obtain ⟨A, cap, e, _, _, hA⟩ := ha.fls.slice
 refine ⟨A, cap, e, fun h0 => ?_⟩
 obtain ⟨b, e1, hS, hr⟩ := hA h0
 have hS' : a.P b = 1 := hS
 refine ⟨b, e1, hr.inside, fun h => by have := (hR b h).1; omega, ha.fls.apartAt ha.head (by decide) b (by rw [e, e1]; rfl), fun i x hx => ⟨hr.cell (by rw [List.getElem?_map, hx]; rfl), hr.soft i⟩⟩
theorem GloN.failSet {b n cap : Nat} (h : GloN RT R w p m) (e : p.vf = .slice (some ⟨b, 0, none⟩) n cap) {i : Nat} (hi : i < m.fails.length) (x : Bool) : GloK RT R w (w.setCell ⟨b, i, none⟩ (.bool x)) p { m with fails := m.fails.set i x } := by
 obtain ⟨a, ha, hR⟩ := h
 have hf := ha.fls
 have hn : n = m.fails.length := by have := hf.slice; obtain ⟨A, c, e2, _⟩ := this; rw [e] at e2; cases e2; rfl
 subst hn
 have hb1 : a.P b = 1 := (hf.block b (by rw [e]; rfl)).1
 have hbg : b ≠ p.g := hf.apartAt ha.head (by decide) b (by rw [e]; rfl)
 have hc : G.Chg (· = b) w (w.setCell ⟨b, i, none⟩ (.bool x)) := (G.Chg.refl (· = b) w).put (p := ⟨b, i, none⟩) (.inl rfl) _
 have f' : G.OwnRow (fun b => a.P b = 1) (w.setCell ⟨b, i, none⟩ (.bool x)) 4 1 p.vf m.fails.length ((m.fails.set i x).map Value.bool) := by
  rw [e] at hf ⊢
  have := hf.put (i := i) (by rw [List.length_map]; exact hi) (.bool x)
  rw [List.map_set]; exact this
 obtain ⟨k5, k6, k7⟩ := ha.keep4a 1 (w.setCell ⟨b, i, none⟩ (.bool x))
 refine GloN.next hR (a' := { a with P := paint a.P 1 w (w.setCell ⟨b, i, none⟩ (.bool x)) }) ⟨ha.head.other (p := ⟨b, i, none⟩) (Ne.symm hbg) _, ?_, ha.keep2 1 hc (fun g hg _ eg => by subst eg; omega) (fun g hg eg => by subst eg; omega) (fun g hg eg => by subst eg; omega), ha.keep4 1 hc (fun g hg eg => by subst eg; omega), k5, k6, k7,
  ha.keep5 1 hc (fun g hg eg => by subst eg; omega), ha.keep6 1 hc (fun g hg eg => by subst eg; omega), ha.keep7 1 hc (fun g hg eg => by subst eg; omega), (paint_old ha.head.inside).trans ha.own, fun b hb => paint_lim ha.lim hc.size hb, ha.keep0 1 hc⟩ 1 rfl hc (fun g hg e2 => by subst hg; omega)
 show G.OwnRow _ _ _ _ _ (m.fails.set i x).length _
 rw [List.length_set]
 exact f'.mono (fun g hg eg => paint_ne ha.lim (by omega) hg eg)
end
open Go.RowKit
open Classical in
noncomputable def gloP (w wf : World) (S1 S2 : Nat → Prop) (gt gp gr gq gf gb : Nat) : Nat → Nat := fun b => if b < w.heap.size then 0 else if S1 b then 2 else if S2 b then 3 else if b = gt ∨ b = gp ∨ b = gr then 4 else if b = gq then 5 else if b = gf then 6 else if b = gb then 7 else if b < wf.heap.size then 1 else 0
theorem glo_made {RT S1 S2 : Nat → Prop} {w wf : World} {p : Pln} {parts : Nat} {most sec : Int} {g gl gs gt gp gr gq gf gb : Nat} {vt lf vf : Value}
  (hbz : w.heap.size ≤ wf.heap.size) (hh : G.At wf g 84 #[.pointer (some ⟨gl, 0, none⟩), .pointer (some ⟨gt, 0, none⟩), .pointer (some ⟨gq, 0, none⟩), .pointer (some ⟨gf, 0, none⟩), .pointer (some ⟨gb, 0, none⟩), vf, .int .i64 sec, .int .i64 0, .int .i64 0, .int .i64 0, .int .i64 0])
  (hl : WatAt RT S1 S2 wf gl gs vt lf (.slice none 0 0) (.slice none 0 0) (newLp p)) (s1 : ∀ b, S1 b → w.heap.size ≤ b) (s2 : ∀ b, S2 b → w.heap.size ≤ b)
  (ht : BoardAt wf gt gp gr (List.replicate parts (0, 0))) (hq : G.At wf gq 74 #[.slice none 0 0, .int .i64 0]) (hf : G.At wf gf 78 #[.slice none 0 0, .int .i64 0, .int .i64 (mostOf most)]) (hbu : G.At wf gb 82 #[.slice none 0 0])
  (hfa : G.OwnRow (fun b => w.heap.size ≤ b ∧ ¬ S1 b ∧ ¬ S2 b) wf 4 1 vf p.trigs.length ((List.replicate p.trigs.length false).map Value.bool))
  (hn : ∀ b, (b = g ∨ b = gt ∨ b = gp ∨ b = gr ∨ b = gq ∨ b = gf ∨ b = gb) → w.heap.size ≤ b ∧ ¬ S1 b ∧ ¬ S2 b) (rt : ∀ b, RT b → b < w.heap.size) :
  GloN RT (fun b => b < w.heap.size) wf ⟨g, gl, gt, gq, gf, gb, vt, vf⟩ (newWo p parts most sec) := by
 have n1 := hn g (by simp); have n2 := hn gt (by simp); have n3 := hn gp (by simp); have n4 := hn gr (by simp); have n5 := hn gq (by simp); have n6 := hn gf (by simp); have n7 := hn gb (by simp)
 have a1 := ht.head.apart hq (by decide); have a2 := ht.head.apart hf (by decide); have a3 := ht.head.apart hbu (by decide)
 have a4 := ht.ends.apart hq (by decide); have a5 := ht.ends.apart hf (by decide); have a6 := ht.ends.apart hbu (by decide)
 have a7 := ht.offs.apart hq (by decide); have a8 := ht.offs.apart hf (by decide); have a9 := ht.offs.apart hbu (by decide)
 have b1 := hq.apart hf (by decide); have b2 := hq.apart hbu (by decide); have b3 := hf.apart hbu (by decide)
 have c1 := hh.apart ht.head (by decide); have c2 := hh.apart ht.ends (by decide); have c3 := hh.apart ht.offs (by decide); have c4 := hh.apart hq (by decide); have c5 := hh.apart hf (by decide); have c6 := hh.apart hbu (by decide)
 have pold : ∀ b, b < w.heap.size → gloP w wf S1 S2 gt gp gr gq gf gb b = 0 := fun b h => by unfold gloP; rw [if_pos h]
 have p2 : ∀ b, S1 b → gloP w wf S1 S2 gt gp gr gq gf gb b = 2 := fun b h => by unfold gloP; rw [if_neg (by have := s1 b h; omega), if_pos h]
 have p3 : ∀ b, S2 b → gloP w wf S1 S2 gt gp gr gq gf gb b = 3 := fun b h => by unfold gloP; rw [if_neg (by have := s2 b h; omega), if_neg (fun h1 => hl.dis b h1 h), if_pos h]
 have pn : ∀ b, w.heap.size ≤ b → ¬ S1 b → ¬ S2 b → gloP w wf S1 S2 gt gp gr gq gf gb b = if b = gt ∨ b = gp ∨ b = gr then 4 else if b = gq then 5 else if b = gf then 6 else if b = gb then 7 else if b < wf.heap.size then 1 else 0 := fun b h h1 h2 => by
  unfold gloP; rw [if_neg (by omega), if_neg h1, if_neg h2]
 have pt : gloP w wf S1 S2 gt gp gr gq gf gb gt = 4 := by rw [pn _ n2.1 n2.2.1 n2.2.2, if_pos (.inl rfl)]
 have pp : gloP w wf S1 S2 gt gp gr gq gf gb gp = 4 := by rw [pn _ n3.1 n3.2.1 n3.2.2, if_pos (.inr (.inl rfl))]
 have pr : gloP w wf S1 S2 gt gp gr gq gf gb gr = 4 := by rw [pn _ n4.1 n4.2.1 n4.2.2, if_pos (.inr (.inr rfl))]
 have pq : gloP w wf S1 S2 gt gp gr gq gf gb gq = 5 := by rw [pn _ n5.1 n5.2.1 n5.2.2, if_neg (by omega), if_pos rfl]
 have pf : gloP w wf S1 S2 gt gp gr gq gf gb gf = 6 := by rw [pn _ n6.1 n6.2.1 n6.2.2, if_neg (by omega), if_neg (by omega), if_pos rfl]
 have pb : gloP w wf S1 S2 gt gp gr gq gf gb gb = 7 := by rw [pn _ n7.1 n7.2.1 n7.2.2, if_neg (by omega), if_neg (by omega), if_neg (by omega), if_pos rfl]
 have pg : gloP w wf S1 S2 gt gp gr gq gf gb g = 1 := by rw [pn _ n1.1 n1.2.1 n1.2.2, if_neg (by omega), if_neg (by omega), if_neg (by omega), if_neg (by omega), if_pos hh.inside]
 have plim : ∀ b, gloP w wf S1 S2 gt gp gr gq gf gb b ≠ 0 → b < wf.heap.size := by
  intro b hb
  rcases Nat.lt_or_ge b w.heap.size with h | h
  ·exact absurd (pold b h) hb
  by_cases h1 : S1 b
  ·exact hl.lim b h1
  by_cases h2 : S2 b
  ·exact hl.st.lim b h2
  rw [pn b h h1 h2] at hb
  have := ht.head.inside; have := ht.ends.inside; have := ht.offs.inside; have := hq.inside; have := hf.inside; have := hbu.inside
  split at hb
  ·omega
  split at hb
  ·omega
  split at hb
  ·omega
  split at hb
  ·omega
  split at hb
  ·assumption
  exact absurd rfl hb
 generalize gloP w wf S1 S2 gt gp gr gq gf gb = P at *
 refine ⟨⟨gs, gp, gr, lf, .slice none 0 0, .slice none 0 0, .slice none 0 0, .slice none 0 0, .slice none 0 0, P⟩, ⟨hh, ?_, ?_, ht, pt, pp, pr, ?_, ?_, ?_, pg, plim, fun b hb => ⟨pold b (rt b hb), Nat.lt_of_lt_of_le (rt b hb) hbz⟩⟩, fun b hb => ⟨pold b hb, Nat.lt_of_lt_of_le hb hbz⟩⟩
 ·show G.OwnRow _ wf 4 1 vf (List.replicate p.trigs.length false).length ((List.replicate p.trigs.length false).map Value.bool)
  rw [List.length_replicate]
  refine G.OwnRow.of_owns hfa.owns fun b hb => ?_
  have e := hfa.block b hb
  have d1 := hfa.apartAt ht.head (by decide) b hb; have d2 := hfa.apartAt ht.ends (by decide) b hb; have d3 := hfa.apartAt ht.offs (by decide) b hb; have d4 := hfa.apartAt hq (by decide) b hb; have d5 := hfa.apartAt hf (by decide) b hb; have d6 := hfa.apartAt hbu (by decide) b hb
  show P b = 1
  rw [pn b e.1.1 e.1.2.1 e.1.2.2, if_neg (by omega), if_neg (by omega), if_neg (by omega), if_neg (by omega), if_pos e.2]
 ·exact hl.mono (fun b _ hb => p2 b hb) (fun b _ hb => p3 b hb) (fun b (hb : P b = 2) => plim b (by omega)) (fun b (hb : P b = 3) => plim b (by omega)) (fun b (h1 : P b = 2) (h2 : P b = 3) => by omega) (fun b hb => by
   have := pold b (rt b hb)
   exact ⟨fun (h : P b = 2) => by omega, fun (h : P b = 3) => by omega⟩)
 ·exact ⟨hq, G.OwnRow.nil _ _ _ _, pq, Nat.zero_le _, fun b (hb : P b = 5) => plim b (by omega)⟩
 ·exact ⟨hf, G.OwnRow.nil _ _ _ _, pf, Nat.zero_le _, fun b (hb : P b = 6) => plim b (by omega)⟩
 exact ⟨hbu, G.OwnRow.nil _ _ _ _, pb, Nat.zero_le _, fun b (hb : P b = 7) => plim b (by omega)⟩
end Go.Proofs.YtidonhndeohdlaaGreat
