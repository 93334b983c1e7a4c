/- Parts of this claim: WldC, WldD. -/
import Derived.Test.YtidonhndeohdlaaGreatWl34
import Derived.Test.YtidonhndeohdlaaGreatWl28
set_option linter.unusedVariables false
set_option linter.unusedSimpArgs false
set_option maxRecDepth 100000
set_option maxHeartbeats 12800000
namespace Go.Proofs.YtidonhndeohdlaaGreat
open Go.RowKit
def WoPost (R : Nat → Prop) (w : World) (p : Wp) (x : Value) (m : Wo) (e : Ending) (w' : World) : Prop := e = .returned x ∧ WoC R w w' p m
def OnRun (R : Nat → Prop) (w wr : World) (p : Wp) (m : Wo) (k : Nat) : Prop := ∃ m' : Wo, WoC R w wr p m' ∧ m' = { m with b := m'.b, f := m'.f } ∧ G.Numbered m'.b ∧ G.waitN m'.b ≤ k ∧ G.Crewed m'.f m.fl m.most ∧ onN m.most k (m'.b, m'.f) = onN m.most m.b.length (m.b, m.f)
theorem onRun_stop {R : Nat → Prop} {w wr : World} {p : Wp} {m m' : Wo} {k : Nat} (h : WoC R w wr p m') (e : m' = { m with b := m'.b, f := m'.f }) (hg : onGoes m.most m'.b m'.f = false) (hk : onN m.most k (m'.b, m'.f) = onN m.most m.b.length (m.b, m.f)) : WoPost R w p (.tuple #[]) m.on (.returned (.tuple #[])) wr := by
 rw [onN_stop (x := (m'.b, m'.f)) hg] at hk
 refine ⟨rfl, ?_⟩
 unfold Wo.on
 rw [← hk]
 rw [e] at h
 exact h
theorem waitN_le (l : List G.Req) : G.waitN l ≤ l.length := by unfold G.waitN; exact List.countP_le_length
theorem woOn (R : Nat → Prop) (p : Wp) (m : Wo) (j : Nat) (w : World) (h : WoN R w p m) (hk : m.ok j) :
  Calls Tryz.prog 65 #[.pointer (some ⟨p.g, 0, none⟩)] w (WoPost R w p (.tuple #[]) m.on) := by
 have HS := J (show OnRun R w w p m m.b.length from ⟨m, WoC.refl h, rfl, hk.fair.num, waitN_le _, hk.crew, rfl⟩)
 have HM := J (show m.most ≤ 1000 by have := hk.most1; omega)
 clear h hk
 go_enter Tryz.func65, Tryz.ntmps65
 go_wp2_with fail
 go_loopg [] m.b.length (fun k wr => Hid (OnRun R w wr p m k))
 case atStart => exact HS
 clear HS
 obtain ⟨m', hC, hm, hn, hw, hcr, he⟩ := hrel.u
 have HC := J hC; have HEq := J hm; have HNu := J hn; have HW := J hw; have HCr := J hcr; have HE := J he
 have HMo := J (show m'.most = m.most by rw [hm])
 have HFl := J (show m'.fl = m.fl by rw [hm])
 have x4 := hC.1.at.here (i := 4) rfl
 clear hC hm hn hw hcr he hrel
 go_wp2_with fail
 refine (woNext _ HC.u.1).mono ?_
 rintro e w2 ⟨rfl, hc2⟩
 have HC2 := J (WoC.trans HC.u.2 hc2)
 by_cases hnx : 0 < G.nextN m'.b
 ·have HNx := J hnx
  have x3 := HC2.u.1.at.here (i := 3) rfl
  rw [decide_eq_true hnx]
  clear hc2 hnx x4 HC
  go_wp2_with fail
  refine (woGive _ HC2.u.1 (by rw [HMo.u]; exact HM.u) (fun q hq => (HCr.u.loads q hq).1)).mono ?_
  rintro e w3 ⟨rfl, hc3⟩
  have HC3 := J (WoC.trans HC2.u.2 hc3)
  by_cases hg : G.giveErr m'.f m'.most = 0
  ·have HG := J (show onGoes m.most m'.b m'.f = true by unfold onGoes; rw [← HMo.u, hg, decide_eq_true HNx.u]; rfl)
   have x4 := HC3.u.1.at.here (i := 4) rfl
   rw [hg]
   clear hc3 hg x3 HC2
   go_wp2_with fail
   refine (woRun (G.nextN m'.b) (G.giveNum m'.f m'.most) _ HC3.u.1).mono ?_
   rintro e w4 ⟨rfl, hc4⟩
   have HN := J (show OnRun R w w4 p m (gk - 1) from ⟨_, WoC.trans HC3.u.2 hc4, by rw [HEq.u], G.tame_num HNu.u (G.tame_run _ _ _), by
    have := G.waitN_run HNu.u HNx.u (G.giveNum m'.f m'.most); have := HW.u; show G.waitN (G.runLst m'.b (G.nextN m'.b) (G.giveNum m'.f m'.most)) ≤ gk - 1; omega, by show G.Crewed (G.giveLst m'.f m'.most) m.fl m.most; rw [HMo.u]; exact HCr.u.give.1, by
    have hk1 : gk = gk - 1 + 1 := by have := G.waitN_run HNu.u HNx.u 0; have := HW.u; omega
    have e2 := HE.u
    rw [hk1, onN_go (x := (m'.b, m'.f)) HG.u] at e2
    rw [← e2]; show onN m.most (gk - 1) (G.runLst m'.b _ _, G.giveLst m'.f m'.most) = _; rw [HMo.u]⟩)
   have hgk : 0 < gk := by have := G.waitN_run HNu.u HNx.u 0; have := HW.u; omega
   have HGk := J hgk
   clear hc4 hgk x4 HC3
   go_wp2_with fail
   go_roundg (gk - 1)
   case measure => have := HGk.u; omega
   case rel => exact HN
  have hgb : (G.giveErr m'.f m'.most != 0) = true := by simpa using hg
  have HF := J (onRun_stop (show WoC R w w3 p m' by
   have e4 : G.giveLst m'.f m'.most = m'.f := by unfold G.giveErr at hg; unfold G.giveLst; cases hq : G.giveAt m'.f m'.most with
    | none => rfl
    | some i => rw [hq] at hg; exact absurd rfl hg
   have := HC3.u; rw [e4] at this; exact this) HEq.u (by unfold onGoes; rw [← HMo.u, show (G.giveErr m'.f m'.most == 0) = false by simpa using hg, Bool.and_false]) HE.u)
  generalize G.giveErr m'.f m'.most = ge at hgb ⊢
  clear hc3 hg x3 HC2 HC3
  go_wp2_with fail
  go_end0
  exact HF.u
 have HF := J (onRun_stop HC2.u HEq.u (by unfold onGoes; rw [decide_eq_false hnx]; rfl) HE.u)
 rw [decide_eq_false hnx]
 clear hc2 hnx x4 HC
 go_wp2_with fail
 go_end0
 exact HF.u
theorem woThen (R : Nat → Prop) (p : Wp) (m : Wo) (j : Nat) (x : Int) (w : World) (h : WoN R w p m) (hk : m.ok j) :
  Calls Tryz.prog 27 #[.pointer (some ⟨p.g, 0, none⟩), .int .i64 x] w (WoPost R w p (.int .i64 x) (if x = 0 then m.on else m)) := by
 have HH := J h; have HK := J hk
 clear h hk
 by_cases hx : x = 0
 ·subst hx
  rw [if_pos rfl]
  go_enter Tryz.func27, Tryz.ntmps27
  go_wp2_with fail
  refine (woOn R p m j _ HH.u HK.u).mono ?_
  rintro e w2 ⟨rfl, hc⟩
  have HC := J hc
  clear hc
  go_wp2_with fail
  go_ret
  exact ⟨rfl, HC.u⟩
 have hxb : (x == 0) = false := by simpa using hx
 have HC := J (WoC.refl HH.u)
 rw [if_neg hx]
 clear hx
 go_enter Tryz.func27, Tryz.ntmps27
 go_wp2_with fail
 go_ret
 exact ⟨rfl, HC.u⟩
def crashW (m : Wo) (n : Int) : Wo := if G.crashErr m.f n = 0 then ({ m with f := G.crashLst m.f n, b := G.lostLst m.b n } : Wo).on else m
theorem ok_crash {m : Wo} {j : Nat} (h : m.ok j) (n : Int) : ({ m with f := G.crashLst m.f n, b := G.lostLst m.b n } : Wo).ok j :=
 { h with crew := (h.crew.crash n).1, live := Int.le_trans (G.live_crash _ _) h.live, fn := Nat.le_trans (h.crew.crash n).2.2 h.fn, fair := (G.fair_lost h.fair _).1, bn := by show (G.lostLst _ _).length ≤ 200; rw [G.lost_length]; exact h.bn }
theorem ok_doneW {m : Wo} {j : Nat} (h : m.ok j) (n : Int) : (doneW m n).ok j :=
 { h with crew := (h.crew.done (G.doneNum m.b n)).1, live := Int.le_trans (G.live_podDone _ _) h.live, fn := Nat.le_trans (h.crew.done (G.doneNum m.b n)).2.2 h.fn, fair := (G.fair_done h.fair _).1, bn := by show (G.doneLst _ _).length ≤ 200; rw [G.reqDone_length]; exact h.bn }
theorem woCrashed (R : Nat → Prop) (p : Wp) (m : Wo) (j : Nat) (n : Int) (w : World) (h : WoN R w p m) (hk : m.ok j) :
  Calls Tryz.prog 29 #[.pointer (some ⟨p.g, 0, none⟩), .int .i64 n] w (WoPost R w p (.int .i64 (G.crashErr m.f n)) (crashW m n)) := by
 have HH := J h; have HK := J hk
 have x3 := h.at.here (i := 3) rfl
 clear h hk
 go_enter Tryz.func29, Tryz.ntmps29
 go_wp2_with fail
 refine (woCrash n _ HH.u).mono ?_
 rintro e w2 ⟨rfl, hc2⟩
 by_cases hx : G.crashErr m.f n = 0
 ·have HU := J (show crashW m n = ({ m with f := G.crashLst m.f n, b := G.lostLst m.b n } : Wo).on by unfold crashW; rw [if_pos hx])
  have HC2 := J hc2
  have HXe := J hx
  have x4 := hc2.1.at.here (i := 4) rfl
  rw [hx]
  clear hx hc2 x3
  go_wp2_with fail
  refine (woLost n _ HC2.u.1).mono ?_
  rintro e w3 ⟨⟨v, rfl⟩, hc3⟩
  have HC3 := J (WoC.trans HC2.u.2 hc3)
  clear hc3 x4
  go_wp2_with fail
  refine (woOn R p _ j _ HC3.u.1 (ok_crash HK.u n)).mono ?_
  rintro e w4 ⟨rfl, hc4⟩
  have HC4 := J (WoC.trans HC3.u.2 hc4)
  clear hc4
  go_wp2_with fail
  go_ret
  exact ⟨by rw [HXe.u] <;> rfl, by rw [HU.u]; exact HC4.u⟩
 have hxb : (G.crashErr m.f n != 0) = true := by simpa using hx
 have HF := J (show WoC R w w2 p (crashW m n) by
  unfold crashW; rw [if_neg hx]
  have e : G.crashLst m.f n = m.f := by
   unfold G.crashErr at hx; unfold G.crashLst
   cases hq : G.findP m.f n with
   | none => rfl
   | some i => rw [hq] at hx; exact absurd rfl hx
  rw [e] at hc2; exact hc2)
 clear hx hc2 x3
 obtain ⟨E, hE⟩ : ∃ E, G.crashErr m.f n = E := ⟨_, rfl⟩
 rw [hE] at hxb ⊢
 have HEq := J hE
 clear hE
 go_wp2_with fail
 go_ret
 exact ⟨by rw [HEq.u] <;> rfl, HF.u⟩
def finishW (m : Wo) (n : Int) : Wo := if G.doneErr m.b n = 0 then (doneW m n).on else m
theorem woFinished (R : Nat → Prop) (p : Wp) (m : Wo) (j : Nat) (n : Int) (w : World) (h : WoN R w p m) (hk : m.ok j) :
  Calls Tryz.prog 31 #[.pointer (some ⟨p.g, 0, none⟩), .int .i64 n] w (WoPost R w p (.int .i64 (G.doneErr m.b n)) (finishW m n)) := by
 have HH := J h; have HK := J hk
 have HL := J (two_loads hk.crew hk.most1)
 have x4 := h.at.here (i := 4) rfl
 clear h hk
 go_enter Tryz.func31, Tryz.ntmps31
 go_wp2_with fail
 refine (woReqDone n _ HH.u).mono ?_
 rintro e w2 ⟨rfl, hc2⟩
 by_cases hx : G.doneErr m.b n = 0
 ·have HU := J (show finishW m n = (doneW m n).on by unfold finishW; rw [if_pos hx])
  have HC2 := J hc2
  have HXe := J hx
  have x3 := hc2.1.at.here (i := 3) rfl
  rw [hx]
  clear hx hc2 x4
  go_wp2_with fail
  refine (woPodDone (G.doneNum m.b n) _ HC2.u.1 HL.u).mono ?_
  rintro e w3 ⟨rfl, hc3⟩
  have HC3 := J (show WoC R w w3 p (doneW m n) from WoC.trans HC2.u.2 hc3)
  clear hc3 x3
  go_wp2_with fail
  refine (woOn R p _ j _ HC3.u.1 (ok_doneW HK.u n)).mono ?_
  rintro e w4 ⟨rfl, hc4⟩
  have HC4 := J (WoC.trans HC3.u.2 hc4)
  clear hc4
  go_wp2_with fail
  go_ret
  exact ⟨by rw [HXe.u] <;> rfl, by rw [HU.u]; exact HC4.u⟩
 have hxb : (G.doneErr m.b n != 0) = true := by simpa using hx
 have HF := J (show WoC R w w2 p (finishW m n) by
  unfold finishW; rw [if_neg hx]
  have e : G.doneLst m.b n = m.b := by
   unfold G.doneErr at hx; unfold G.doneLst
   cases hq : G.reqAt m.b n with
   | none => rfl
   | some r =>
    rw [hq] at hx; simp only at hx ⊢
    split
    ·rename_i h2; rw [if_pos h2] at hx; exact absurd rfl hx
    rfl
  rw [e] at hc2; exact hc2)
 clear hx hc2 x4
 obtain ⟨E, hE⟩ : ∃ E, G.doneErr m.b n = E := ⟨_, rfl⟩
 rw [hE] at hxb ⊢
 have HEq := J hE
 clear hE
 go_wp2_with fail
 go_ret
 exact ⟨by rw [HEq.u] <;> rfl, HF.u⟩
def failW (m : Wo) (a n : Int) : Wo := if failE m a n = 0 then { m with fails := m.fails.set a.toNat (n == 1) } else m
theorem woFail (R : Nat → Prop) (p : Wp) (m : Wo) (a n : Int) (w : World) (h : WoN R w p m) (hf : m.fails.length ≤ 1000) :
  Calls Tryz.prog 24 #[.pointer (some ⟨p.g, 0, none⟩), .int .i64 a, .int .i64 n] w (WoPost R w p (.int .i64 (failE m a n)) (failW m a n)) := by
 obtain ⟨A, cap, e, hA⟩ := h.failv
 have x6 : w.cell? ⟨p.g, 6, none⟩ = some (.slice A m.fails.length cap) := e ▸ h.at.here (i := 6) rfl
 have hl : (m.fails.length : Int) ≤ 1000 := by omega
 have HC := J (WoC.refl h)
 by_cases h0 : a < 0 ∨ (m.fails.length : Int) ≤ a
 ·have e1 : failE m a n = 4 := by unfold failE; rw [if_pos h0]
  have e2 : failW m a n = m := by unfold failW; rw [e1]; rfl
  rw [e1, e2]
  clear hA e e1 e2 h
  by_cases h1 : a < 0
  ·clear h0
   go_enter Tryz.func24, Tryz.ntmps24
   go_wp2_with fail
   go_ret
   exact ⟨rfl, HC.u⟩
  have h2 : (m.fails.length : Int) ≤ a := by omega
  clear h0
  go_enter Tryz.func24, Tryz.ntmps24
  go_wp2_with fail
  go_ret
  exact ⟨rfl, HC.u⟩
 obtain ⟨k, rfl⟩ := Int.eq_ofNat_of_zero_le (show 0 ≤ a by omega)
 have hk : k < m.fails.length := by omega
 have k0 : (0 : Int) ≤ (k : Int) := by omega
 have k1 : (k : Int) < (m.fails.length : Int) := by omega
 obtain ⟨b, rfl, hb, _, hbg, hcl⟩ := hA (by omega)
 obtain ⟨x, hx⟩ := G.get_some m.fails hk
 obtain ⟨c0, c1⟩ := hcl k x hx
 by_cases hn : n ≠ 0 ∧ n ≠ 1
 ·have e1 : failE m k n = 1 := by unfold failE; rw [if_neg h0, if_pos hn]
  have e2 : failW m k n = m := by unfold failW; rw [e1]; rfl
  rw [e1, e2]
  obtain ⟨n0, n1⟩ := hn
  have n0b : (n != 0) = true := by simpa using n0
  have n1b : (n != 1) = true := by simpa using n1
  clear h0 hA e e1 e2 h hcl c0 c1 hx n0 n1
  go_enter Tryz.func24, Tryz.ntmps24
  go_wp2_with fail
  go_ret
  exact ⟨rfl, HC.u⟩
 have e1 : failE m k n = 0 := by unfold failE; rw [if_neg h0, if_neg hn]
 have e2 : failW m k n = { m with fails := m.fails.set k (n == 1) } := by unfold failW; rw [if_pos e1]; rfl
 have HF := J (h.failSet e hk (n == 1))
 rw [e1, e2]
 rcases (show n = 0 ∨ n = 1 by omega) with rfl | rfl
 all_goals
  clear h0 hA e e1 e2 h hcl hx hn
  go_enter Tryz.func24, Tryz.ntmps24
  go_wp2_with fail
  go_ret
  exact ⟨rfl, HF.u⟩
open Go.RowKit
def RdPost (R : Nat → Prop) (w : World) (p : Wp) (m : Wo) (t : Trg) (x : Bool) (e : Ending) (w' : World) : Prop :=
 ∃ (r : RdV) (Q : Nat → Prop), e = .returned (.agg #[.bool r.failed, .slice r.A r.xs.length r.cap]) ∧ r.rd = readOf t x m.t m.q m.now ∧ NumsOf Q w' r.A r.xs ∧ r.xs.length ≤ 20 ∧ (∀ b, Q b → w.heap.size ≤ b) ∧ WoN (fun b => R b ∨ Q b) w' p { m with q := qAfter [t] m.q m.now } ∧ G.Chg (fun b => ¬ R b) w w'
theorem NumsOf.mono {R R' : Nat → Prop} {w : World} {A : Option Addr} {xs : List Int} (h : NumsOf R w A xs) (hs : ∀ b, R b → R' b) : NumsOf R' w A xs := fun h0 => by
 obtain ⟨b, off, e, hR, hlt, hx⟩ := h h0
 exact ⟨b, off, e, hs b hR, hlt, hx⟩
theorem NumsOf.keep {R R' : Nat → Prop} {w : World} {A : Option Addr} {xs : List Int} (h : NumsOf R w A xs) (hs : ∀ b, R b → b < w.heap.size → R' b) : NumsOf R' w A xs := fun h0 => by
 obtain ⟨b, off, e, hR, hlt, hx⟩ := h h0
 exact ⟨b, off, e, hs b hR hlt, hlt, hx⟩
theorem read_end {R Q : Nat → Prop} {w w2 wf : World} {p : Wp} {m : Wo} {t : Trg} {x : Bool} {A : Option Addr} {cap : Nat} {xs : List Int} (hR : ∀ b, R b → b < w.heap.size) (h2 : WoN (fun b => R b ∨ Q b) w2 p { m with q := qAfter [t] m.q m.now }) (hQ : ∀ b, Q b → w.heap.size ≤ b) (hc : G.Chg (fun b => ¬ R b) w w2) (q0 : Q w.heap.size) (q1 : Q (w.heap.size + 1))
  (hn : NumsOf (fun b => Q b ∧ b ≠ w.heap.size ∧ b ≠ w.heap.size + 1) w2 A xs) (hl : xs.length ≤ 20) (hf : G.Chg (fun b => b = w.heap.size ∨ b = w.heap.size + 1) w2 wf) (hr : (⟨x, xs⟩ : Rd) = readOf t x m.t m.q m.now) :
  RdPost R w p m t x (.returned (.agg #[.bool x, .slice A xs.length cap])) wf := by
 refine ⟨⟨x, A, cap, xs⟩, Q, rfl, hr, (hn.chg hf (fun b hb h => ?_)).mono (fun b hb => hb.1), hl, hQ, (h2.grow hf (fun b hb => ?_)).mono (fun b hb => .inl hb), hc.trans (hf.mono fun b _ hb hRb => ?_)⟩
 ·rcases h with h | h
  ·exact hb.2.1 h
  exact hb.2.2 h
 ·rcases hb with rfl | rfl
  ·exact .inr q0
  exact .inr q1
 have := hR b hRb; omega
theorem nums_of_row {S : Nat → Prop} {w : World} {A : Option Addr} {n cap : Nat} {xs : List Int} (h : G.OwnRow S w 3 1 (.slice A n cap) xs.length (xs.map (Value.int .i64))) : NumsOf S w A xs := fun h0 => by
 obtain ⟨A', cap', e, _, _, hv⟩ := h.slice
 cases e
 obtain ⟨g, e1, hS, hr⟩ := hv h0
 exact ⟨g, 0, e1, hS, hr.inside, fun i x hi => by rw [Nat.zero_add]; exact hr.cell (by rw [List.getElem?_map, hi]; rfl)⟩
theorem three_puts {g : Nat} (w : World) (a u v : Value) : G.Chg (fun b => b = g ∨ b = g + 1) w (((w.setCell ⟨g + 1, 1, none⟩ a).setCell ⟨g, 0, none⟩ u).setCell ⟨g, 1, none⟩ v) := (((G.Chg.refl (fun b => b = g ∨ b = g + 1) w).put (p := ⟨g + 1, 1, none⟩) (.inl (.inr rfl)) a).put (p := ⟨g, 0, none⟩) (.inl (.inl rfl)) u).put (p := ⟨g, 1, none⟩) (.inl (.inl rfl)) v
theorem chg_alloc_both {C : Nat → Prop} {w w' : World} (h : G.Chg C w w') (hz : w'.heap.size = w.heap.size) (o : Obj) : G.Chg C (w.alloc o) (w'.alloc o) := by
 refine ⟨h.os, h.tape, h.output, by simp [hz], fun k hk hn => ?_⟩
 simp only [World.size_alloc] at hk
 by_cases c : k < w.heap.size
 ·rw [Below.heap_alloc w' o k (by omega), Below.heap_alloc w o k c]; exact h.block k c hn
 have e : k = w.heap.size := by omega
 subst e
 have e1 : (w.alloc o).heap[w.heap.size]? = some o := heap_alloc_new w o
 have e2 : (w'.alloc o).heap[w'.heap.size]? = some o := heap_alloc_new w' o
 rw [e1, ← hz, e2]
theorem lags_length (l : List (Int × Int)) : (lagsOf l).length = l.length := by unfold lagsOf; simp
theorem two_made (w : World) (T : TypeId) (x : Value) (y : Array Value) : G.Chg (fun _ => False) w ((w.alloc (.cells y T)).alloc (.cells #[x, .slice none 0 0] T)) := ((G.Chg.refl _ w).alloc _).alloc _
theorem woReading (R : Nat → Prop) (p : Wp) (m : Wo) (i : Nat) (t : Trg) (x : Bool) (w : World) (h : WoN R w p m) (ht : m.l.p.trigs[i]? = some t) (hx : m.fails[i]? = some x) (hs : Small m.t) (hl : m.t.length ≤ 20) (hf : m.fails.length ≤ 1000) (hg : m.l.p.trigs.length ≤ 1000) :
  Calls Tryz.prog 106 #[.pointer (some ⟨p.g, 0, none⟩), .int .i64 (i : Int)] w (RdPost R w p m t x) := by
 obtain ⟨A, cap, e, hA⟩ := h.failv
 have hi := G.get_lt hx
 have hi2 := G.get_lt ht
 obtain ⟨b, rfl, hbl, _, _, hcl⟩ := hA (by omega)
 obtain ⟨c0, _⟩ := hcl i x hx
 obtain ⟨At, capt, et, hAt⟩ := h.trigs
 obtain ⟨bt, offt, rfl, hbt, hct⟩ := hAt (by omega)
 have k0 : w.cell? ⟨bt, offt + i * 17, none⟩ = some (.int .i64 t.kind) := hct i t 0 _ ht rfl
 have x6 : w.cell? ⟨p.g, 6, none⟩ = some (.slice (some ⟨b, 0, none⟩) m.fails.length cap) := e ▸ h.at.here (i := 6) rfl
 have x5 : w.cell? ⟨p.g, 5, none⟩ = some (.slice (some ⟨bt, offt, none⟩) m.l.p.trigs.length capt) := et ▸ h.at.here (i := 5) rfl
 have i0 : (0 : Int) ≤ (i : Int) := by omega
 have i1 : (i : Int) < (m.fails.length : Int) := by omega
 have i2 : (i : Int) < (m.l.p.trigs.length : Int) := by omega
 have i3 : (m.fails.length : Int) ≤ 1000 := by omega
 have i4 : (m.l.p.trigs.length : Int) ≤ 1000 := by omega
 have hpg : p.g < w.heap.size := h.at.inside
 have HR := J (fun b (hb : R b) => h.lt hb)
 have HH := J h; have HS := J hs; have HL := J hl
 have HZ := J (h.grow (two_made w 142 (.bool x) #[.bool false, .slice none 0 0]) (fun _ h => h.elim))
 have HC := J (two_made w 142 (.bool x) #[.bool false, .slice none 0 0])
 have HA0 := J ((G.At.made w 142 #[.bool false, .slice none 0 0]).alloc (.cells #[.bool x, .slice none 0 0] 142))
 have hA1 := G.At.made (w.alloc (.cells #[.bool false, .slice none 0 0] 142)) 142 #[.bool x, .slice none 0 0]
 rw [World.size_alloc] at hA1
 have HA1 := J hA1
 clear hA1 h e et hA hcl hAt hct hs hl hf hg ht hx hi hi2
 by_cases hk1 : t.kind = 1
 ·have HE := J (show (⟨x, lagsOf m.t⟩ : Rd) = readOf t x m.t m.q m.now by unfold readOf; rw [if_pos hk1])
  have HQa := J (show qAfter [t] m.q m.now = m.q by unfold qAfter isDepth; simp [hk1])
  rw [hk1] at k0
  clear hk1
  go_enter Tryz.func106, Tryz.ntmps106
  go_upto_region 4 with fail
  have x1 : ((w.alloc (.cells #[.bool false, .slice none 0 0] 142)).alloc (.cells #[.bool x, .slice none 0 0] 142)).cell? ⟨p.g, 1, none⟩ = some (.pointer (some ⟨p.gt, 0, none⟩)) := HZ.u.at.here (i := 1) rfl
  go_wp2_with fail
  refine (woLags _ HZ.u HS.u).mono ?_
  rintro e w2 ⟨v, rfl, ho, hb2⟩
  have hz2 := hb2.size
  simp only [World.size_alloc] at hz2
  have hO := G.OwnRow.of_owns (S := fun b => w.heap.size + 2 ≤ b) ho (fun g hg => by have := G.own_ge ho g hg; simpa using this)
  obtain ⟨A2, cap2, rfl, _, _, _⟩ := hO.slice
  have hC2 := HC.u.trans (G.Chg.of_below (S := fun _ => False) hb2 (Nat.le_refl _))
  have HG := J (HH.u.grow hC2 (fun _ h => h.elim))
  have HY := J (HA1.u.below hb2 HA1.u.inside)
  have HZ0 := J (HA0.u.below hb2 HA0.u.inside)
  have HF := J (fun (wf : World) (hf : G.Chg (fun b => b = w.heap.size ∨ b = w.heap.size + 1) w2 wf) => read_end (t := t) (cap := cap2) HR.u (Q := fun b => w.heap.size ≤ b ∧ b < w2.heap.size) (by rw [HQa.u]; exact HG.u) (fun b hb => hb.1) (hC2.mono fun _ _ h => h.elim) ⟨Nat.le_refl _, by omega⟩ ⟨by omega, by omega⟩ ((nums_of_row hO).keep fun b hb hlt => ⟨⟨by omega, hlt⟩, by omega, by omega⟩) (by rw [lags_length]; exact HL.u) hf HE.u)
  clear ho hb2 hO hC2 x1 k0 HG
  have y0 := HY.u.here (i := 0) rfl
  have y1 := HY.u.here (i := 1) rfl
  have y2 := HY.u.soft 0
  have y3 := HY.u.soft 1
  have z0 := HZ0.u.here (i := 0) rfl
  have z1 := HZ0.u.here (i := 1) rfl
  have z2 := HZ0.u.soft 0
  have z3 := HZ0.u.soft 1
  clear HY HZ0
  go_wp2_with fail
  refine bodyPost_ret (v := .agg #[.bool x, .slice A2 (lagsOf m.t).length cap2]) (by simp [results, Tryz.results106, go_sem, y0, y1, y2, y3, z0, z1, z2, z3]) rfl (HF.u _ ?_)
  exact three_puts _ _ _ _
 have hk1b : (t.kind == 1) = false := by simpa using hk1
 by_cases hk2 : t.kind = 2
 ·have HE := J (show (⟨x, [G.depthNum m.q m.now]⟩ : Rd) = readOf t x m.t m.q m.now by unfold readOf; rw [if_neg hk1, if_pos hk2])
  have HQa := J (show qAfter [t] m.q m.now = G.nowLst m.q m.now by unfold qAfter isDepth; simp [hk2])
  rw [hk2] at k0
  clear hk1 hk1b hk2
  have HN := J ((HZ.u.mono (R' := fun b => R b ∨ (b = w.heap.size ∨ b = w.heap.size + 1)) (fun b hb => hb.imp id (fun e => by simp only [World.size_alloc]; omega))))
  go_enter Tryz.func106, Tryz.ntmps106
  go_upto_region 6 with fail
  have x2 : ((w.alloc (.cells #[.bool false, .slice none 0 0] 142)).alloc (.cells #[.bool x, .slice none 0 0] 142)).cell? ⟨p.g, 2, none⟩ = some (.pointer (some ⟨p.gq, 0, none⟩)) := HZ.u.at.here (i := 2) rfl
  have x8 : ((w.alloc (.cells #[.bool false, .slice none 0 0] 142)).alloc (.cells #[.bool x, .slice none 0 0] 142)).cell? ⟨p.g, 8, none⟩ = some (.int .i64 m.now) := HZ.u.at.here (i := 8) rfl
  go_region_held3 (fun w' => w'.cell? ⟨p.g, 2, none⟩ = some (.pointer (some ⟨p.gq, 0, none⟩)) ∧ w'.cell? ⟨p.g, 8, none⟩ = some (.int .i64 m.now)) (first | exact ⟨v2, v8⟩ | exact ⟨x2, x8⟩ | go_keep) ((go_at_call 129; refine (woDepth m.now _ HN.u.drew).mono ?_; rintro e w2 ⟨rfl, hc⟩; have v2 := hc.1.at.here (i := 2) rfl; have v8 := hc.1.at.here (i := 8) rfl))
  all_goals
   have HY := J (At.kept HA1.u.drew hc.2 (.inr (.inr rfl)))
   have HZ0 := J (At.kept HA0.u.drew hc.2 (.inr (.inl rfl)))
   have HZ1 := HZ0
   have hz2 : w.heap.size + 2 ≤ w2.heap.size := by have := hc.2.size; simpa using this
   have hG := hc.1.grow ((G.Chg.refl (fun _ => False) w2).alloc (.cells #[.int .i64 (G.depthNum m.q m.now)] 3)) (fun _ h => h.elim)
   have hCh : G.Chg (fun b => ¬ R b) w (w2.alloc (.cells #[.int .i64 (G.depthNum m.q m.now)] 3)) := ((HC.u.mono fun _ _ h => h.elim).drew.trans (hc.2.mono fun _ _ h hR => h (.inl hR))).alloc _
   have hNew := G.At.made w2 3 #[.int .i64 (G.depthNum m.q m.now)]
   have HF := J (fun (wf : World) (hf : G.Chg (fun b => b = w.heap.size ∨ b = w.heap.size + 1) (w2.alloc (.cells #[.int .i64 (G.depthNum m.q m.now)] 3)) wf) => read_end (t := t) (A := some ⟨w2.heap.size, 0, none⟩) (cap := 1) (xs := [G.depthNum m.q m.now]) HR.u (Q := fun b => (b = w.heap.size ∨ b = w.heap.size + 1) ∨ (w2.heap.size ≤ b ∧ b < (w2.alloc (.cells #[.int .i64 (G.depthNum m.q m.now)] 3)).heap.size)) (by rw [HQa.u]; exact hG.mono fun b hb => by rcases hb with hb | hb | hb; exact .inl (.inl hb); exact .inl (.inr hb); exact .inr hb) (fun b hb => by rcases hb with (hb | hb) | hb <;> omega) hCh (.inl (.inl rfl)) (.inl (.inr rfl)) (fun _ => ⟨w2.heap.size, 0, rfl, ⟨.inr ⟨Nat.le_refl _, hNew.inside⟩, by omega, by omega⟩, hNew.inside, fun i y hi => by rcases i with _ | i; simp at hi; subst hi; exact hNew.here rfl; simp at hi⟩) (by simp) hf HE.u)
   have hzb : w.heap.size < w2.heap.size := by omega
   have hzc : w.heap.size + 1 < w2.heap.size := by omega
   clear hc hG hCh hNew v2 v8 k0 hz2
   have y0 := HY.u.here (i := 0) rfl
   have y1 := HY.u.here (i := 1) rfl
   have y2 := HY.u.soft 0
   have y3 := HY.u.soft 1
   have z0 := HZ0.u.here (i := 0) rfl
   have z1 := HZ0.u.here (i := 1) rfl
   have z2 := HZ0.u.soft 0
   have z3 := HZ0.u.soft 1
   clear HY HZ0
   have hA := (((HZ1.u.other (p := ⟨w.heap.size + 1, 1, none⟩) (show w.heap.size ≠ w.heap.size + 1 by omega) (.slice (some ⟨w2.heap.size, 0, none⟩) 1 1)).put 0 (.bool x)).put 1 (.slice (some ⟨w2.heap.size, 0, none⟩) 1 1)).alloc (.cells #[.int .i64 (G.depthNum m.q m.now)] 3)
   have HA := J hA
   clear hA
   go_wp2_with fail
   refine bodyPost_ret (v := .agg #[.bool x, .slice (some ⟨w2.heap.size, 0, none⟩) 1 1]) (by exact results_cell_row Tryz.results106 _ _ w.heap.size 142 _ (0, 0) _ rfl HA.u Tryz.underlying142 rfl (by kernel_rfl)) rfl (HF.u _ ?_)
   exact chg_alloc_both (three_puts _ _ _ _) (by simp [World.setCell]) _
 have hk2b : (t.kind == 2) = false := by simpa using hk2
 have HE := J (show (⟨x, []⟩ : Rd) = readOf t x m.t m.q m.now by unfold readOf; rw [if_neg hk1, if_neg hk2])
 have HQa := J (show qAfter [t] m.q m.now = m.q by unfold qAfter isDepth; simp [hk2])
 have HF := J (read_end (t := t) (A := none) (cap := 0) (xs := []) HR.u (Q := fun b => w.heap.size ≤ b ∧ b < ((w.alloc (.cells #[.bool x, .slice none 0 0] 142)).alloc (.cells #[.bool x, .slice none 0 0] 142)).heap.size) (by rw [HQa.u]; exact HH.u.grow (two_made w 142 (.bool x) #[.bool x, .slice none 0 0]) (fun _ h => h.elim)) (fun b hb => hb.1) ((two_made w 142 (.bool x) #[.bool x, .slice none 0 0]).mono fun _ _ h => h.elim) ⟨Nat.le_refl _, by simp only [World.size_alloc]; omega⟩ ⟨by omega, by simp only [World.size_alloc]; omega⟩ (fun h0 => by simp at h0) (by simp) (G.Chg.refl _ _) HE.u)
 clear hk1 hk2
 go_enter Tryz.func106, Tryz.ntmps106
 go_wp2_with fail
 refine bodyPost_ret (v := .agg #[.bool x, .slice none 0 0]) (by simp [results, Tryz.results106, go_sem]) rfl HF.u
end Go.Proofs.YtidonhndeohdlaaGreat
