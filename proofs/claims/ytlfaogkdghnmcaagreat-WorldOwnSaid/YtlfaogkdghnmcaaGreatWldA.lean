/- A world in memory: one painting of the blocks; what becomes of it if one part turns. -/
import Derived.Test.YtlfaogkdghnmcaaGreatWldM
import Derived.Test.YtlfaogkdghnmcaaGreatLopG
import Derived.Test.YtlfaogkdghnmcaaGreatZLopC
import Derived.Test.YtlfaogkdghnmcaaGreatZQue
import Derived.Test.YtlfaogkdghnmcaaGreatZFle
import Derived.Test.YtlfaogkdghnmcaaGreatZBuf
set_option linter.unusedVariables false
set_option linter.unusedSimpArgs false
namespace Go.Proofs.YtlfaogkdghnmcaaGreat
open Go.RowKit
/-- where a world's parts lie -/
structure Wp where
  g : Nat
  gl : Nat
  gt : Nat
  gq : Nat
  gf : Nat
  gb : Nat
  vt : Value
  vf : Value
/-- what else there is, that turns -/
structure Wg where
  gs : Nat
  gp : Nat
  lt : Value
  lf : Value
  lw : Value
  lm : Value
  vq : Value
  vp : Value
  vb : Value
  P : Nat → Nat
theorem LopAt.mono {T TS TM : TypeId} {S1 S2 S1' S2' : Nat → Prop} {w : World} {g gs : Nat} {vt vf vw vm : Value} {l : Lp} (h : LopAt T TS TM S1 S2 w g gs vt vf vw vm l) (h1 : ∀ b, b < w.heap.size → S1 b → S1' b) (h2 : ∀ b, b < w.heap.size → S2 b → S2' b)
    (l1 : ∀ b, S1' b → b < w.heap.size) (l2 : ∀ b, S2' b → b < w.heap.size) (hd : ∀ b, S1' b → ¬ S2' b) : LopAt T TS TM S1' S2' w g gs vt vf vw vm l :=
  ⟨h.head, h.trg.mono h1, h.fls.mono h1, h.st.mono h2 l2, h1 g h.head.inside h.own, hd, l1⟩
/-- a world in memory -/
structure WoIn (w : World) (p : Wp) (a : Wg) (m : Wo) : Prop where
  head : Tide.At w p.g 101 #[.pointer (some ⟨p.gl, 0, none⟩), .pointer (some ⟨p.gt, 0, none⟩), .pointer (some ⟨p.gq, 0, none⟩), .pointer (some ⟨p.gf, 0, none⟩), .pointer (some ⟨p.gb, 0, none⟩), p.vt, p.vf, .int .i64 m.sec, .int .i64 m.now, .int .i64 m.target]
  trg : Tide.OwnRow (fun b => a.P b = 1) w 37 17 p.vt m.l.p.trigs.length (m.l.p.trigs.flatMap Trg.enc)
  fls : Tide.OwnRow (fun b => a.P b = 1) w 4 1 p.vf m.fails.length (m.fails.map Value.bool)
  lp : LopAt 142 184 225 (fun b => a.P b = 2) (fun b => a.P b = 3) w p.gl a.gs a.lt a.lf a.lw a.lm m.l
  tp : TopicAt w p.gt a.gp m.t
  tp1 : a.P p.gt = 4
  tp2 : a.P a.gp = 4
  qu : QAt 147 (fun b => a.P b = 5) w p.gq a.vq m.q m.ql
  fl : FAt 149 (fun b => a.P b = 6) w p.gf a.vp m.f m.fl m.most
  bu : BAt 151 (fun b => a.P b = 7) w p.gb a.vb m.b
  own : a.P p.g = 1
  lim : ∀ b, a.P b ≠ 0 → b < w.heap.size
/-- the blocks that are new between two worlds get a colour -/
def paint (P : Nat → Nat) (i : Nat) (w w' : World) : Nat → Nat := fun b => if w.heap.size ≤ b ∧ b < w'.heap.size then i else P b
section
variable {w w' : World} {p : Wp} {a : Wg} {m : Wo} {C R : Nat → Prop} {i j : Nat}
theorem paint_old {P : Nat → Nat} {b : Nat} (h : b < w.heap.size) : paint P i w w' b = P b := by unfold paint; rw [if_neg (by omega)]
theorem paint_plus {P : Nat → Nat} (hl : ∀ b, P b ≠ 0 → b < w.heap.size) (hi : i ≠ 0) {b : Nat} (h : Tide.Plus (fun b => P b = i) w w' b) : paint P i w w' b = i := by
  unfold paint
  rcases h with h | h
  · rw [if_neg (by have := hl b (by omega); omega)]; exact h
  · rw [if_pos h]
theorem paint_lim {P : Nat → Nat} (hl : ∀ b, P b ≠ 0 → b < w.heap.size) (hz : w.heap.size ≤ w'.heap.size) {b : Nat} (h : paint P i w w' b ≠ 0) : b < w'.heap.size := by
  unfold paint at h
  split at h
  · omega
  · have := hl b h; omega
theorem paint_lt {P : Nat → Nat} (hl : ∀ b, P b ≠ 0 → b < w.heap.size) (hz : w.heap.size ≤ w'.heap.size) (hj : j ≠ 0) {b : Nat} (h : paint P i w w' b = j) : b < w'.heap.size := paint_lim (i := i) hl hz (by omega)
theorem paint_ne {P : Nat → Nat} (hl : ∀ b, P b ≠ 0 → b < w.heap.size) (hj : j ≠ 0) {b : Nat} (hb : b < w'.heap.size) (h : P b = j) : paint P i w w' b = j := by
  rw [paint_old (hl b (by omega))]; exact h
theorem WoIn.keep1 (h : WoIn w p a m) (i : Nat) (hc : Tide.Chg C w w') (hC : ∀ b, a.P b = 1 → ¬ C b) : Tide.At w' p.g 101 #[.pointer (some ⟨p.gl, 0, none⟩), .pointer (some ⟨p.gt, 0, none⟩), .pointer (some ⟨p.gq, 0, none⟩), .pointer (some ⟨p.gf, 0, none⟩), .pointer (some ⟨p.gb, 0, none⟩), p.vt, p.vf, .int .i64 m.sec, .int .i64 m.now, .int .i64 m.target]
    ∧ Tide.OwnRow (fun b => paint a.P i w w' b = 1) w' 37 17 p.vt m.l.p.trigs.length (m.l.p.trigs.flatMap Trg.enc) ∧ Tide.OwnRow (fun b => paint a.P i w w' b = 1) w' 4 1 p.vf m.fails.length (m.fails.map Value.bool) ∧ paint a.P i w w' p.g = 1 :=
  ⟨h.head.chg hc (hC _ h.own), (h.trg.chg hc hC).mono (fun b hb e => paint_ne h.lim (by omega) hb e), (h.fls.chg hc hC).mono (fun b hb e => paint_ne h.lim (by omega) hb e), (paint_old h.head.inside).trans h.own⟩
theorem WoIn.keep2 (h : WoIn w p a m) (i : Nat) (hc : Tide.Chg C w w') (h2 : ∀ b, a.P b = 2 → ¬ C b) (h3 : ∀ b, a.P b = 3 → ¬ C b) : LopAt 142 184 225 (fun b => paint a.P i w w' b = 2) (fun b => paint a.P i w w' b = 3) w' p.gl a.gs a.lt a.lf a.lw a.lm m.l :=
  (h.lp.chg hc h2 h3).mono (fun b hb e => paint_ne h.lim (by omega) hb e) (fun b hb e => paint_ne h.lim (by omega) hb e) (fun b e => paint_lt h.lim hc.size (by omega) e) (fun b e => paint_lt h.lim hc.size (by omega) e) (fun b (e1 : paint _ _ _ _ b = 2) (e2 : paint _ _ _ _ b = 3) => by omega)
theorem WoIn.keep4 (h : WoIn w p a m) (i : Nat) (hc : Tide.Chg C w w') (hC : ∀ b, a.P b = 4 → ¬ C b) : TopicAt w' p.gt a.gp m.t := h.tp.chg hc (hC _ h.tp1) (hC _ h.tp2)
theorem WoIn.keep4a (h : WoIn w p a m) (i : Nat) (w' : World) : paint a.P i w w' p.gt = 4 ∧ paint a.P i w w' a.gp = 4 := ⟨(paint_old h.tp.head.inside).trans h.tp1, (paint_old h.tp.parts.inside).trans h.tp2⟩
theorem WoIn.keep5 (h : WoIn w p a m) (i : Nat) (hc : Tide.Chg C w w') (hC : ∀ b, a.P b = 5 → ¬ C b) : QAt 147 (fun b => paint a.P i w w' b = 5) w' p.gq a.vq m.q m.ql :=
  (h.qu.chg hc hC).mono (fun b hb e => paint_ne h.lim (by omega) hb e) (fun b e => paint_lt h.lim hc.size (by omega) e)
theorem WoIn.keep6 (h : WoIn w p a m) (i : Nat) (hc : Tide.Chg C w w') (hC : ∀ b, a.P b = 6 → ¬ C b) : FAt 149 (fun b => paint a.P i w w' b = 6) w' p.gf a.vp m.f m.fl m.most :=
  (h.fl.chg hc hC).mono (fun b hb e => paint_ne h.lim (by omega) hb e) (fun b e => paint_lt h.lim hc.size (by omega) e)
theorem WoIn.keep7 (h : WoIn w p a m) (i : Nat) (hc : Tide.Chg C w w') (hC : ∀ b, a.P b = 7 → ¬ C b) : BAt 151 (fun b => paint a.P i w w' b = 7) w' p.gb a.vb m.b :=
  (h.bu.chg hc hC).mono (fun b hb e => paint_ne h.lim (by omega) hb e) (fun b e => paint_lt h.lim hc.size (by omega) e)
/-- a world in memory, apart from the blocks of R -/
def WoN (R : Nat → Prop) (w : World) (p : Wp) (m : Wo) : Prop := ∃ a, WoIn w p a m ∧ ∀ b, R b → a.P b = 0 ∧ b < w.heap.size
/-- .. and what became of the blocks of R: nothing -/
def WoC (R : Nat → Prop) (w w' : World) (p : Wp) (m : Wo) : Prop := WoN R w' p m ∧ Tide.Chg (fun b => ¬ R b) w w'
theorem WoN.next {a' : Wg} {m' : Wo} (hR : ∀ b, R b → a.P b = 0 ∧ b < w.heap.size) (h' : WoIn w' p a' m') (i : Nat) (hP : a'.P = paint a.P i w w') (hi : Tide.Chg C w w') (hC : ∀ b, C b → a.P b ≠ 0) : WoC R w w' p m' :=
  ⟨⟨a', h', fun b hb => ⟨by rw [hP, paint_old (hR b hb).2]; exact (hR b hb).1, Nat.lt_of_lt_of_le (hR b hb).2 hi.size⟩⟩, hi.mono fun b _ hc hR' => hC b hc (hR b hR').1⟩
theorem WoN.next0 {a' : Wg} {m' : Wo} (hR : ∀ b, R b → a.P b = 0 ∧ b < w.heap.size) (h' : WoIn w' p a' m') (hP : a'.P = paint a.P 0 w w') (hi : Tide.Chg C w w') (hC : ∀ b, C b → a.P b ≠ 0) : WoN (fun b => R b ∨ (w.heap.size ≤ b ∧ b < w'.heap.size)) w' p m' ∧ Tide.Chg (fun b => ¬ R b) w w' :=
  ⟨⟨a', h', fun b hb => by
    rcases hb with hb | hb
    · exact ⟨by rw [hP, paint_old (hR b hb).2]; exact (hR b hb).1, Nat.lt_of_lt_of_le (hR b hb).2 hi.size⟩
    · exact ⟨by rw [hP]; unfold paint; rw [if_pos hb], hb.2⟩⟩, hi.mono fun b _ hc hR' => hC b hc (hR b hR').1⟩
theorem WoN.mono {R' : Nat → Prop} (h : WoN R w p m) (hs : ∀ b, R' b → R b) : WoN R' w p m := by
  obtain ⟨a, ha, hR⟩ := h
  exact ⟨a, ha, fun b hb => hR b (hs b hb)⟩
/-- what is new behind the world's back -/
theorem WoN.grow (h : WoN R w p m) (hc : Tide.Chg C w w') (hC : ∀ b, C b → R b) : WoN (fun b => R b ∨ (w.heap.size ≤ b ∧ b < w'.heap.size)) w' p m := by
  obtain ⟨a, ha, hR⟩ := h
  have hn : ∀ k, k ≠ 0 → ∀ b, a.P b = k → ¬ C b := fun k hk b hb hcb => by have := (hR b (hC b hcb)).1; omega
  obtain ⟨k1, k2, k3, k4⟩ := ha.keep1 0 hc (hn 1 (by omega))
  obtain ⟨k5, k6⟩ := ha.keep4a 0 w'
  have hz := hc.size
  refine ⟨{ a with P := paint a.P 0 w w' }, ⟨k1, k2, k3, ha.keep2 0 hc (hn 2 (by omega)) (hn 3 (by omega)), ha.keep4 0 hc (hn 4 (by omega)), k5, k6, ha.keep5 0 hc (hn 5 (by omega)), ha.keep6 0 hc (hn 6 (by omega)), ha.keep7 0 hc (hn 7 (by omega)), k4, fun b hb => paint_lim ha.lim hc.size hb⟩, fun b hb => ?_⟩
  rcases hb with hb | hb
  · exact ⟨(paint_old (hR b hb).2).trans (hR b hb).1, Nat.lt_of_lt_of_le (hR b hb).2 hz⟩
  · exact ⟨by show paint a.P 0 w w' b = 0; unfold paint; rw [if_pos hb], hb.2⟩
theorem WoN.chg (h : WoN R w p m) (hc : Tide.Chg (fun _ => False) w w') : WoN R w' p m := (h.grow hc (fun _ h => h.elim)).mono fun _ h => .inl h
theorem WoN.lt (h : WoN R w p m) {b : Nat} (hb : R b) : b < w.heap.size := by obtain ⟨a, ha, hR⟩ := h; exact (hR b hb).2
theorem WoC.refl (h : WoN R w p m) : WoC R w w p m := ⟨h, Tide.Chg.refl _ _⟩
theorem WoC.trans {w1 w2 : World} {m' : Wo} (h : Tide.Chg (fun b => ¬ R b) w w1) (k : WoC R w1 w2 p m') : WoC R w w2 p m' := ⟨k.1, h.trans k.2⟩
theorem WoC.below {w1 : World} (h : WoC R w w1 p m) (hb : Below w1.heap.size w1 w') : WoC R w w' p m := ⟨h.1.chg (Tide.Chg.of_below hb (Nat.le_refl _)), h.2.trans (Tide.Chg.of_below hb (Nat.le_refl _))⟩
theorem At.kept {g : Nat} {T : TypeId} {cs : Array Value} (h : Tide.At w g T cs) (hc : Tide.Chg (fun b => ¬ R b) w w') (hR : R g) : Tide.At w' g T cs := h.chg hc (fun k => k hR)
theorem WoN.below (h : WoN R w p m) (hb : Below w.heap.size w w') : WoN R w' p m := h.chg (Tide.Chg.of_below hb (Nat.le_refl _))
theorem WoN.alloc (h : WoN R w p m) (o : Obj) : WoN R (w.alloc o) p m := h.chg ((Tide.Chg.refl _ w).alloc o)
theorem WoN.drew (h : WoN R w p m) : WoN R w.drew p m := h.chg (Tide.Chg.refl _ w).drew
theorem WoN.at (h : WoN R w p m) : Tide.At w p.g 101 #[.pointer (some ⟨p.gl, 0, none⟩), .pointer (some ⟨p.gt, 0, none⟩), .pointer (some ⟨p.gq, 0, none⟩), .pointer (some ⟨p.gf, 0, none⟩), .pointer (some ⟨p.gb, 0, none⟩), p.vt, p.vf, .int .i64 m.sec, .int .i64 m.now, .int .i64 m.target] := by obtain ⟨a, ha, _⟩ := h; exact ha.head
/-- one part turned -/
theorem WoN.queue {q' : List Tide.Msg} {ql' : Int} {v' : Value} (ha : WoIn w p a m) (hR : ∀ b, R b → a.P b = 0 ∧ b < w.heap.size) (hq : QAt 147 (Tide.Plus (fun b => a.P b = 5) w w') w' p.gq v' q' ql') (hc : Tide.Chg (fun b => a.P b = 5) w w') : WoC R w w' p { m with q := q', ql := ql' } := by
  obtain ⟨k1, k2, k3, k4⟩ := ha.keep1 5 hc (fun _ _ _ => by omega)
  obtain ⟨k5, k6⟩ := ha.keep4a 5 w'
  exact WoN.next hR (a' := { a with vq := v', P := paint a.P 5 w w' }) ⟨k1, k2, k3, ha.keep2 5 hc (fun _ _ _ => by omega) (fun _ _ _ => by omega), ha.keep4 5 hc (fun _ _ _ => by omega), k5, k6, hq.mono (fun b _ hb => paint_plus ha.lim (by omega) hb) (fun b e => paint_lt ha.lim hc.size (by omega) e), ha.keep6 5 hc (fun _ _ _ => by omega), ha.keep7 5 hc (fun _ _ _ => by omega), k4, fun b hb => paint_lim ha.lim hc.size hb⟩ 5 rfl hc (fun _ h => by omega)
theorem WoN.fleet {f' : List Tide.Pod} {fl' : Int} {v' : Value} (ha : WoIn w p a m) (hR : ∀ b, R b → a.P b = 0 ∧ b < w.heap.size) (hq : FAt 149 (Tide.Plus (fun b => a.P b = 6) w w') w' p.gf v' f' fl' m.most) (hc : Tide.Chg (fun b => a.P b = 6) w w') : WoC R w w' p { m with f := f', fl := fl' } := by
  obtain ⟨k1, k2, k3, k4⟩ := ha.keep1 6 hc (fun _ _ _ => by omega)
  obtain ⟨k5, k6⟩ := ha.keep4a 6 w'
  exact WoN.next hR (a' := { a with vp := v', P := paint a.P 6 w w' }) ⟨k1, k2, k3, ha.keep2 6 hc (fun _ _ _ => by omega) (fun _ _ _ => by omega), ha.keep4 6 hc (fun _ _ _ => by omega), k5, k6, ha.keep5 6 hc (fun _ _ _ => by omega), hq.mono (fun b _ hb => paint_plus ha.lim (by omega) hb) (fun b e => paint_lt ha.lim hc.size (by omega) e), ha.keep7 6 hc (fun _ _ _ => by omega), k4, fun b hb => paint_lim ha.lim hc.size hb⟩ 6 rfl hc (fun _ h => by omega)
theorem WoN.buffer {b' : List Tide.Req} {v' : Value} (ha : WoIn w p a m) (hR : ∀ b, R b → a.P b = 0 ∧ b < w.heap.size) (hq : BAt 151 (Tide.Plus (fun b => a.P b = 7) w w') w' p.gb v' b') (hc : Tide.Chg (fun b => a.P b = 7) w w') : WoC R w w' p { m with b := b' } := by
  obtain ⟨k1, k2, k3, k4⟩ := ha.keep1 7 hc (fun _ _ _ => by omega)
  obtain ⟨k5, k6⟩ := ha.keep4a 7 w'
  exact WoN.next hR (a' := { a with vb := v', P := paint a.P 7 w w' }) ⟨k1, k2, k3, ha.keep2 7 hc (fun _ _ _ => by omega) (fun _ _ _ => by omega), ha.keep4 7 hc (fun _ _ _ => by omega), k5, k6, ha.keep5 7 hc (fun _ _ _ => by omega), ha.keep6 7 hc (fun _ _ _ => by omega), hq.mono (fun b _ hb => paint_plus ha.lim (by omega) hb) (fun b e => paint_lt ha.lim hc.size (by omega) e), k4, fun b hb => paint_lim ha.lim hc.size hb⟩ 7 rfl hc (fun _ h => by omega)
theorem WoN.topic {t' : List (Int × Int)} (ha : WoIn w p a m) (hR : ∀ b, R b → a.P b = 0 ∧ b < w.heap.size) (hq : TopicAt w' p.gt a.gp t') (hc : Tide.Chg (· = a.gp) w w') : WoC R w w' p { m with t := t' } := by
  have hgp := ha.tp2
  obtain ⟨k1, k2, k3, k4⟩ := ha.keep1 4 hc (fun b hb e => by subst e; omega)
  obtain ⟨k5, k6⟩ := ha.keep4a 4 w'
  exact WoN.next hR (a' := { a with P := paint a.P 4 w w' }) ⟨k1, k2, k3, ha.keep2 4 hc (fun b hb e => by subst e; omega) (fun b hb e => by subst e; omega), hq, k5, k6, ha.keep5 4 hc (fun b hb e => by subst e; omega), ha.keep6 4 hc (fun b hb e => by subst e; omega), ha.keep7 4 hc (fun b hb e => by subst e; omega), k4, fun b hb => paint_lim ha.lim hc.size hb⟩ 4 rfl hc (fun b e => by subst e; omega)
theorem WoN.loop {l' : Lp} {lw' lm' : Value} (ha : WoIn w p a m) (hR : ∀ b, R b → a.P b = 0 ∧ b < w.heap.size) (hp : l'.p = m.l.p)
    (hq : LopAt 142 184 225 (fun b => a.P b = 2) (Tide.Plus (fun b => a.P b = 3) w w') w' p.gl a.gs a.lt a.lf lw' lm' l') (hc : Tide.Chg (fun b => a.P b = 2 ∨ a.P b = 3) w w') : WoC R w w' p { m with l := l' } := by
  obtain ⟨k1, k2, k3, k4⟩ := ha.keep1 3 hc (fun _ _ _ => by omega)
  obtain ⟨k5, k6⟩ := ha.keep4a 3 w'
  rw [← hp] at k2
  exact WoN.next hR (a' := { a with lw := lw', lm := lm', P := paint a.P 3 w w' }) ⟨k1, k2, k3, hq.mono (fun b hb e => paint_ne ha.lim (by omega) hb e) (fun b _ hb => paint_plus ha.lim (by omega) hb) (fun b e => paint_lt ha.lim hc.size (by omega) e) (fun b e => paint_lt ha.lim hc.size (by omega) e) (fun b (e1 : paint _ _ _ _ b = 2) (e2 : paint _ _ _ _ b = 3) => by omega), ha.keep4 3 hc (fun _ _ _ => by omega), k5, k6, ha.keep5 3 hc (fun _ _ _ => by omega), ha.keep6 3 hc (fun _ _ _ => by omega), ha.keep7 3 hc (fun _ _ _ => by omega), k4, fun b hb => paint_lim ha.lim hc.size hb⟩ 3 rfl hc (fun _ h => by omega)
/-- a cell of the world's own head is stored: its clock, its target -/
theorem WoN.head (h : WoN R w p m) (k : Nat) (u : Value) (n' t' : Int)
    (hu : (#[.pointer (some ⟨p.gl, 0, none⟩), .pointer (some ⟨p.gt, 0, none⟩), .pointer (some ⟨p.gq, 0, none⟩), .pointer (some ⟨p.gf, 0, none⟩), .pointer (some ⟨p.gb, 0, none⟩), p.vt, p.vf, .int .i64 m.sec, .int .i64 m.now, .int .i64 m.target] : Array Value).setIfInBounds k u = #[.pointer (some ⟨p.gl, 0, none⟩), .pointer (some ⟨p.gt, 0, none⟩), .pointer (some ⟨p.gq, 0, none⟩), .pointer (some ⟨p.gf, 0, none⟩), .pointer (some ⟨p.gb, 0, none⟩), p.vt, p.vf, .int .i64 m.sec, .int .i64 n', .int .i64 t']) : WoC R w (w.setCell ⟨p.g, k, none⟩ u) p { m with now := n', target := t' } := by
  obtain ⟨a, ha, hR⟩ := h
  have hown := ha.own
  have hc : Tide.Chg (· = p.g) w (w.setCell ⟨p.g, k, none⟩ u) := (Tide.Chg.refl (· = p.g) w).put (p := ⟨p.g, k, none⟩) (.inl rfl) u
  have hh := ha.head.put k u
  rw [hu] at hh
  have t1 := ha.trg.aside (p := ⟨p.g, k, none⟩) (ha.trg.apartAt ha.head (by decide)) u
  have t2 := ha.fls.aside (p := ⟨p.g, k, none⟩) (ha.fls.apartAt ha.head (by decide)) u
  obtain ⟨k5, k6⟩ := ha.keep4a 1 (w.setCell ⟨p.g, k, none⟩ u)
  exact WoN.next hR (a' := { a with P := paint a.P 1 w (w.setCell ⟨p.g, k, none⟩ u) }) ⟨hh, t1.mono (fun b hb e => paint_ne ha.lim (by omega) hb e), t2.mono (fun b hb e => paint_ne ha.lim (by omega) hb e), ha.keep2 1 hc (fun b hb e => by subst e; omega) (fun b hb e => by subst e; omega), ha.keep4 1 hc (fun b hb e => by subst e; omega), k5, k6, ha.keep5 1 hc (fun b hb e => by subst e; omega), ha.keep6 1 hc (fun b hb e => by subst e; omega), ha.keep7 1 hc (fun b hb e => by subst e; omega), (paint_old ha.head.inside).trans ha.own, fun b hb => paint_lim ha.lim hc.size hb⟩ 1 rfl hc (fun b e => by subst e; omega)
theorem WoN.trigs (h : WoN R w p m) : Tide.ListIn w 17 Trg.enc p.vt m.l.p.trigs := by obtain ⟨a, ha, _⟩ := h; exact ha.trg.list Trg.enc_length
theorem WoN.failv (h : WoN R w p m) : ∃ A cap, p.vf = .slice A m.fails.length cap ∧ (0 < m.fails.length → ∃ b, A = some ⟨b, 0, none⟩ ∧ b < w.heap.size ∧ ¬ R b ∧ b ≠ p.g ∧ ∀ (i : Nat) (x : Bool), m.fails[i]? = some x → w.cell? ⟨b, i, none⟩ = some (.bool x) ∧ w.frozen? ⟨b, i, none⟩ = false) := by
  obtain ⟨a, ha, hR⟩ := h
  obtain ⟨A, cap, e, _, _, hA⟩ := ha.fls.slice
  refine ⟨A, cap, e, fun h0 => ?_⟩
  obtain ⟨b, e1, hS, hr⟩ := hA h0
  have hS' : a.P b = 1 := hS
  refine ⟨b, e1, hr.inside, fun h => by have := (hR b h).1; omega, ha.fls.apartAt ha.head (by decide) b (by rw [e, e1]; rfl), fun i x hx => ⟨hr.cell (by rw [List.getElem?_map, hx]; rfl), hr.soft i⟩⟩
theorem WoN.failSet {b n cap : Nat} (h : WoN R w p m) (e : p.vf = .slice (some ⟨b, 0, none⟩) n cap) {i : Nat} (hi : i < m.fails.length) (x : Bool) : WoC R w (w.setCell ⟨b, i, none⟩ (.bool x)) p { m with fails := m.fails.set i x } := by
  obtain ⟨a, ha, hR⟩ := h
  have hf := ha.fls
  have hn : n = m.fails.length := by have := hf.slice; obtain ⟨A, c, e2, _⟩ := this; rw [e] at e2; cases e2; rfl
  subst hn
  have hb1 : a.P b = 1 := (hf.block b (by rw [e]; rfl)).1
  have hbg : b ≠ p.g := hf.apartAt ha.head (by decide) b (by rw [e]; rfl)
  have hbt : ∀ g, p.vt.ownBlock = some g → g ≠ b := fun g hg => by
    rintro rfl
    rw [e] at hf
    obtain ⟨g2, c2, e3, _, _, _, r2⟩ := hf.form (by omega)
    cases e3
    obtain ⟨cur, hcur, _⟩ := r2
    exact ha.trg.apartAt hcur (by decide) g hg rfl
  have hc : Tide.Chg (· = b) w (w.setCell ⟨b, i, none⟩ (.bool x)) := (Tide.Chg.refl (· = b) w).put (p := ⟨b, i, none⟩) (.inl rfl) _
  have hne : ∀ k, k ≠ 1 → ∀ g, a.P g = k → ¬ g = b := fun k hk g hg eg => by subst eg; omega
  have f' : Tide.OwnRow (fun b => a.P b = 1) (w.setCell ⟨b, i, none⟩ (.bool x)) 4 1 p.vf m.fails.length ((m.fails.set i x).map Value.bool) := by
    rw [e] at hf ⊢
    have := hf.put (i := i) (by rw [List.length_map]; exact hi) (.bool x)
    rw [List.map_set]; exact this
  obtain ⟨k5, k6⟩ := ha.keep4a 1 (w.setCell ⟨b, i, none⟩ (.bool x))
  refine WoN.next hR (a' := { a with P := paint a.P 1 w (w.setCell ⟨b, i, none⟩ (.bool x)) }) ⟨ha.head.other (p := ⟨b, i, none⟩) (Ne.symm hbg) _, ?_, ?_, ha.keep2 1 hc (hne 2 (by omega)) (hne 3 (by omega)), ha.keep4 1 hc (hne 4 (by omega)), k5, k6, ha.keep5 1 hc (hne 5 (by omega)), ha.keep6 1 hc (hne 6 (by omega)), ha.keep7 1 hc (hne 7 (by omega)), (paint_old ha.head.inside).trans ha.own, fun b hb => paint_lim ha.lim hc.size hb⟩ 1 rfl hc (fun g eg => by subst eg; omega)
  · exact (ha.trg.aside (p := ⟨b, i, none⟩) hbt _).mono (fun g hg eg => paint_ne ha.lim (by omega) hg eg)
  · show Tide.OwnRow _ _ _ _ _ (m.fails.set i x).length _
    rw [List.length_set]
    exact f'.mono (fun g hg eg => paint_ne ha.lim (by omega) hg eg)
end
end Go.Proofs.YtlfaogkdghnmcaaGreat
