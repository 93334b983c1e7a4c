/- A world: handing on; what is done behind Ready, Crash, Done; whether a trigger fails. -/
import Derived.Test.YtlfaogkdghnmcaaGreatWldB
import Derived.Test.YtlfaogkdghnmcaaGreatWldN
set_option linter.unusedVariables false
set_option linter.unusedSimpArgs false
namespace Go.Proofs.YtlfaogkdghnmcaaGreat
open Go.RowKit
def WoPost (R : Nat → Prop) (w : World) (p : Wp) (x : Value) (m : Wo) (e : Ending) (w' : World) : Prop := e = .returned x ∧ WoC R w w' p m
def OnRun (R : Nat → Prop) (w wr : World) (p : Wp) (m : Wo) (k : Nat) : Prop := ∃ m' : Wo, WoC R w wr p m' ∧ m' = { m with b := m'.b, f := m'.f } ∧ Tide.Numbered m'.b ∧ Tide.waitN m'.b ≤ k ∧ Tide.Crewed m'.f m.fl m.most ∧ onN m.most k (m'.b, m'.f) = onN m.most m.b.length (m.b, m.f)
theorem onRun_stop {R : Nat → Prop} {w wr : World} {p : Wp} {m m' : Wo} {k : Nat} (h : WoC R w wr p m') (e : m' = { m with b := m'.b, f := m'.f }) (hg : onGoes m.most m'.b m'.f = false) (hk : onN m.most k (m'.b, m'.f) = onN m.most m.b.length (m.b, m.f)) : WoPost R w p (.tuple #[]) m.on (.returned (.tuple #[])) wr := by
  rw [onN_stop (x := (m'.b, m'.f)) hg] at hk
  refine ⟨rfl, ?_⟩
  unfold Wo.on
  rw [← hk]
  rw [e] at h
  exact h
theorem waitN_le (l : List Tide.Req) : Tide.waitN l ≤ l.length := by unfold Tide.waitN; exact List.countP_le_length
set_option maxRecDepth 100000 in
set_option maxHeartbeats 3200000 in
theorem woOn (R : Nat → Prop) (p : Wp) (m : Wo) (j : Nat) (w : World) (h : WoN R w p m) (hk : m.ok j) :
    Calls Tryz.prog 97 #[.pointer (some ⟨p.g, 0, none⟩)] w (WoPost R w p (.tuple #[]) m.on) := by
  have HS := Lib.hid (show OnRun R w w p m m.b.length from ⟨m, WoC.refl h, rfl, hk.fair.num, waitN_le _, hk.crew, rfl⟩)
  have HM := Lib.hid (show m.most ≤ 1000 by have := hk.most1; omega)
  clear h hk
  go_enter Tryz.func97, Tryz.ntmps97
  go_wp2_with fail
  go_loopg [] m.b.length (fun k wr => Hid (OnRun R w wr p m k))
  case atStart => exact HS
  case round =>
    clear HS
    obtain ⟨m', hC, hm, hn, hw, hcr, he⟩ := hrel.out
    have HC := Lib.hid hC; have HEq := Lib.hid hm; have HNu := Lib.hid hn; have HW := Lib.hid hw; have HCr := Lib.hid hcr; have HE := Lib.hid he
    have HMo := Lib.hid (show m'.most = m.most by rw [hm])
    have HFl := Lib.hid (show m'.fl = m.fl by rw [hm])
    have x4 := hC.1.at.here (i := 4) rfl
    clear hC hm hn hw hcr he hrel
    go_wp2_with fail
    refine (woNext _ HC.out.1).mono ?_
    rintro e w2 ⟨rfl, hc2⟩
    have HC2 := Lib.hid (WoC.trans HC.out.2 hc2)
    by_cases hnx : 0 < Tide.nextN m'.b
    · have HNx := Lib.hid hnx
      have x3 := HC2.out.1.at.here (i := 3) rfl
      rw [decide_eq_true hnx]
      clear hc2 hnx x4 HC
      go_wp2_with fail
      refine (woGive _ HC2.out.1 (by rw [HMo.out]; exact HM.out) (fun q hq => (HCr.out.loads q hq).1)).mono ?_
      rintro e w3 ⟨rfl, hc3⟩
      have HC3 := Lib.hid (WoC.trans HC2.out.2 hc3)
      by_cases hg : Tide.giveErr m'.f m'.most = 0
      · have HG := Lib.hid (show onGoes m.most m'.b m'.f = true by unfold onGoes; rw [← HMo.out, hg, decide_eq_true HNx.out]; rfl)
        have x4 := HC3.out.1.at.here (i := 4) rfl
        rw [hg]
        clear hc3 hg x3 HC2
        go_wp2_with fail
        refine (woRun (Tide.nextN m'.b) (Tide.giveNum m'.f m'.most) _ HC3.out.1).mono ?_
        rintro e w4 ⟨rfl, hc4⟩
        have HN := Lib.hid (show OnRun R w w4 p m (gk - 1) from ⟨_, WoC.trans HC3.out.2 hc4, by rw [HEq.out], Tide.tame_num HNu.out (Tide.tame_run _ _ _), by
          have := Tide.waitN_run HNu.out HNx.out (Tide.giveNum m'.f m'.most); have := HW.out; show Tide.waitN (Tide.runLst m'.b (Tide.nextN m'.b) (Tide.giveNum m'.f m'.most)) ≤ gk - 1; omega, by show Tide.Crewed (Tide.giveLst m'.f m'.most) m.fl m.most; rw [HMo.out]; exact HCr.out.give.1, by
          have hk1 : gk = gk - 1 + 1 := by have := Tide.waitN_run HNu.out HNx.out 0; have := HW.out; omega
          have e2 := HE.out
          rw [hk1, onN_go (x := (m'.b, m'.f)) HG.out] at e2
          rw [← e2]; show onN m.most (gk - 1) (Tide.runLst m'.b _ _, Tide.giveLst m'.f m'.most) = _; rw [HMo.out]⟩)
        have hgk : 0 < gk := by have := Tide.waitN_run HNu.out HNx.out 0; have := HW.out; omega
        have HGk := Lib.hid hgk
        clear hc4 hgk x4 HC3
        go_wp2_with fail
        go_roundg (gk - 1)
        case measure => have := HGk.out; omega
        case rel => exact HN
      · have hgb : (Tide.giveErr m'.f m'.most != 0) = true := by simpa using hg
        have HF := Lib.hid (onRun_stop (show WoC R w w3 p m' by
          have e4 : Tide.giveLst m'.f m'.most = m'.f := by unfold Tide.giveErr at hg; unfold Tide.giveLst; cases hq : Tide.giveAt m'.f m'.most with
            | none => rfl
            | some i => rw [hq] at hg; exact absurd rfl hg
          have := HC3.out; rw [e4] at this; exact this) HEq.out (by unfold onGoes; rw [← HMo.out, show (Tide.giveErr m'.f m'.most == 0) = false by simpa using hg, Bool.and_false]) HE.out)
        generalize Tide.giveErr m'.f m'.most = ge at hgb ⊢
        clear hc3 hg x3 HC2 HC3
        go_wp2_with fail
        go_end0
        exact HF.out
    · have HF := Lib.hid (onRun_stop HC2.out HEq.out (by unfold onGoes; rw [decide_eq_false hnx]; rfl) HE.out)
      rw [decide_eq_false hnx]
      clear hc2 hnx x4 HC
      go_wp2_with fail
      go_end0
      exact HF.out
set_option maxRecDepth 100000 in
set_option maxHeartbeats 1600000 in
theorem woThen (R : Nat → Prop) (p : Wp) (m : Wo) (j : Nat) (x : Int) (w : World) (h : WoN R w p m) (hk : m.ok j) :
    Calls Tryz.prog 60 #[.pointer (some ⟨p.g, 0, none⟩), .int .i64 x] w (WoPost R w p (.int .i64 x) (if x = 0 then m.on else m)) := by
  have HH := Lib.hid h; have HK := Lib.hid hk
  clear h hk
  by_cases hx : x = 0
  · subst hx
    rw [if_pos rfl]
    go_enter Tryz.func60, Tryz.ntmps60
    go_wp2_with fail
    refine (woOn R p m j _ HH.out HK.out).mono ?_
    rintro e w2 ⟨rfl, hc⟩
    have HC := Lib.hid hc
    clear hc
    go_wp2_with fail
    go_ret
    exact ⟨rfl, HC.out⟩
  · have hxb : (x == 0) = false := by simpa using hx
    have HC := Lib.hid (WoC.refl HH.out)
    rw [if_neg hx]
    clear hx
    go_enter Tryz.func60, Tryz.ntmps60
    go_wp2_with fail
    go_ret
    exact ⟨rfl, HC.out⟩
def crashW (m : Wo) (n : Int) : Wo := if Tide.crashErr m.f n = 0 then ({ m with f := Tide.crashLst m.f n, b := Tide.lostLst m.b n } : Wo).on else m
theorem ok_crash {m : Wo} {j : Nat} (h : m.ok j) (n : Int) : ({ m with f := Tide.crashLst m.f n, b := Tide.lostLst m.b n } : Wo).ok j :=
  { h with crew := (h.crew.crash n).1, live := Int.le_trans (Tide.live_crash _ _) h.live, fn := Nat.le_trans (h.crew.crash n).2.2 h.fn, fair := (Tide.fair_lost h.fair _).1, bn := by show (Tide.lostLst _ _).length ≤ 200; rw [Tide.lost_length]; exact h.bn }
theorem ok_doneW {m : Wo} {j : Nat} (h : m.ok j) (n : Int) : (doneW m n).ok j :=
  { h with crew := (h.crew.done (Tide.doneNum m.b n)).1, live := Int.le_trans (Tide.live_podDone _ _) h.live, fn := Nat.le_trans (h.crew.done (Tide.doneNum m.b n)).2.2 h.fn, fair := (Tide.fair_done h.fair _).1, bn := by show (Tide.doneLst _ _).length ≤ 200; rw [Tide.reqDone_length]; exact h.bn }
set_option maxRecDepth 100000 in
set_option maxHeartbeats 1600000 in
theorem woCrashed (R : Nat → Prop) (p : Wp) (m : Wo) (j : Nat) (n : Int) (w : World) (h : WoN R w p m) (hk : m.ok j) :
    Calls Tryz.prog 62 #[.pointer (some ⟨p.g, 0, none⟩), .int .i64 n] w (WoPost R w p (.int .i64 (Tide.crashErr m.f n)) (crashW m n)) := by
  have HH := Lib.hid h; have HK := Lib.hid hk
  have x3 := h.at.here (i := 3) rfl
  clear h hk
  go_enter Tryz.func62, Tryz.ntmps62
  go_wp2_with fail
  refine (woCrash n _ HH.out).mono ?_
  rintro e w2 ⟨rfl, hc2⟩
  by_cases hx : Tide.crashErr m.f n = 0
  · have HU := Lib.hid (show crashW m n = ({ m with f := Tide.crashLst m.f n, b := Tide.lostLst m.b n } : Wo).on by unfold crashW; rw [if_pos hx])
    have HC2 := Lib.hid hc2
    have HXe := Lib.hid hx
    have x4 := hc2.1.at.here (i := 4) rfl
    rw [hx]
    clear hx hc2 x3
    go_wp2_with fail
    refine (woLost n _ HC2.out.1).mono ?_
    rintro e w3 ⟨⟨v, rfl⟩, hc3⟩
    have HC3 := Lib.hid (WoC.trans HC2.out.2 hc3)
    clear hc3 x4
    go_wp2_with fail
    refine (woOn R p _ j _ HC3.out.1 (ok_crash HK.out n)).mono ?_
    rintro e w4 ⟨rfl, hc4⟩
    have HC4 := Lib.hid (WoC.trans HC3.out.2 hc4)
    clear hc4
    go_wp2_with fail
    go_ret
    exact ⟨by rw [HXe.out] <;> rfl, by rw [HU.out]; exact HC4.out⟩
  · have hxb : (Tide.crashErr m.f n != 0) = true := by simpa using hx
    have HF := Lib.hid (show WoC R w w2 p (crashW m n) by
      unfold crashW; rw [if_neg hx]
      have e : Tide.crashLst m.f n = m.f := by
        unfold Tide.crashErr at hx; unfold Tide.crashLst
        cases hq : Tide.findP m.f n with
        | none => rfl
        | some i => rw [hq] at hx; exact absurd rfl hx
      rw [e] at hc2; exact hc2)
    clear hx hc2 x3
    obtain ⟨E, hE⟩ : ∃ E, Tide.crashErr m.f n = E := ⟨_, rfl⟩
    rw [hE] at hxb ⊢
    have HEq := Lib.hid hE
    clear hE
    go_wp2_with fail
    go_ret
    exact ⟨by rw [HEq.out] <;> rfl, HF.out⟩
def finishW (m : Wo) (n : Int) : Wo := if Tide.doneErr m.b n = 0 then (doneW m n).on else m
set_option maxRecDepth 100000 in
set_option maxHeartbeats 1600000 in
theorem woFinished (R : Nat → Prop) (p : Wp) (m : Wo) (j : Nat) (n : Int) (w : World) (h : WoN R w p m) (hk : m.ok j) :
    Calls Tryz.prog 64 #[.pointer (some ⟨p.g, 0, none⟩), .int .i64 n] w (WoPost R w p (.int .i64 (Tide.doneErr m.b n)) (finishW m n)) := by
  have HH := Lib.hid h; have HK := Lib.hid hk
  have HL := Lib.hid (two_loads hk.crew hk.most1)
  have x4 := h.at.here (i := 4) rfl
  clear h hk
  go_enter Tryz.func64, Tryz.ntmps64
  go_wp2_with fail
  refine (woReqDone n _ HH.out).mono ?_
  rintro e w2 ⟨rfl, hc2⟩
  by_cases hx : Tide.doneErr m.b n = 0
  · have HU := Lib.hid (show finishW m n = (doneW m n).on by unfold finishW; rw [if_pos hx])
    have HC2 := Lib.hid hc2
    have HXe := Lib.hid hx
    have x3 := hc2.1.at.here (i := 3) rfl
    rw [hx]
    clear hx hc2 x4
    go_wp2_with fail
    refine (woPodDone (Tide.doneNum m.b n) _ HC2.out.1 HL.out).mono ?_
    rintro e w3 ⟨rfl, hc3⟩
    have HC3 := Lib.hid (show WoC R w w3 p (doneW m n) from WoC.trans HC2.out.2 hc3)
    clear hc3 x3
    go_wp2_with fail
    refine (woOn R p _ j _ HC3.out.1 (ok_doneW HK.out n)).mono ?_
    rintro e w4 ⟨rfl, hc4⟩
    have HC4 := Lib.hid (WoC.trans HC3.out.2 hc4)
    clear hc4
    go_wp2_with fail
    go_ret
    exact ⟨by rw [HXe.out] <;> rfl, by rw [HU.out]; exact HC4.out⟩
  · have hxb : (Tide.doneErr m.b n != 0) = true := by simpa using hx
    have HF := Lib.hid (show WoC R w w2 p (finishW m n) by
      unfold finishW; rw [if_neg hx]
      have e : Tide.doneLst m.b n = m.b := by
        unfold Tide.doneErr at hx; unfold Tide.doneLst
        cases hq : Tide.reqAt m.b n with
        | none => rfl
        | some r =>
          rw [hq] at hx; simp only at hx ⊢
          split
          · rename_i h2; rw [if_pos h2] at hx; exact absurd rfl hx
          · rfl
      rw [e] at hc2; exact hc2)
    clear hx hc2 x4
    obtain ⟨E, hE⟩ : ∃ E, Tide.doneErr m.b n = E := ⟨_, rfl⟩
    rw [hE] at hxb ⊢
    have HEq := Lib.hid hE
    clear hE
    go_wp2_with fail
    go_ret
    exact ⟨by rw [HEq.out] <;> rfl, HF.out⟩
def failW (m : Wo) (a n : Int) : Wo := if failE m a n = 0 then { m with fails := m.fails.set a.toNat (n == 1) } else m
set_option maxRecDepth 100000 in
set_option maxHeartbeats 1600000 in
theorem woFail (R : Nat → Prop) (p : Wp) (m : Wo) (a n : Int) (w : World) (h : WoN R w p m) (hf : m.fails.length ≤ 1000) :
    Calls Tryz.prog 57 #[.pointer (some ⟨p.g, 0, none⟩), .int .i64 a, .int .i64 n] w (WoPost R w p (.int .i64 (failE m a n)) (failW m a n)) := by
  obtain ⟨A, cap, e, hA⟩ := h.failv
  have x6 : w.cell? ⟨p.g, 6, none⟩ = some (.slice A m.fails.length cap) := e ▸ h.at.here (i := 6) rfl
  have hl : (m.fails.length : Int) ≤ 1000 := by omega
  have HC := Lib.hid (WoC.refl h)
  by_cases h0 : a < 0 ∨ (m.fails.length : Int) ≤ a
  · have e1 : failE m a n = 4 := by unfold failE; rw [if_pos h0]
    have e2 : failW m a n = m := by unfold failW; rw [e1]; rfl
    rw [e1, e2]
    clear hA e e1 e2 h
    by_cases h1 : a < 0
    · clear h0
      go_enter Tryz.func57, Tryz.ntmps57
      go_wp2_with fail
      go_ret
      exact ⟨rfl, HC.out⟩
    · have h2 : (m.fails.length : Int) ≤ a := by omega
      clear h0
      go_enter Tryz.func57, Tryz.ntmps57
      go_wp2_with fail
      go_ret
      exact ⟨rfl, HC.out⟩
  · obtain ⟨k, rfl⟩ := Int.eq_ofNat_of_zero_le (show 0 ≤ a by omega)
    have hk : k < m.fails.length := by omega
    have k0 : (0 : Int) ≤ (k : Int) := by omega
    have k1 : (k : Int) < (m.fails.length : Int) := by omega
    obtain ⟨b, rfl, hb, _, hbg, hcl⟩ := hA (by omega)
    obtain ⟨x, hx⟩ := Tide.get_some m.fails hk
    obtain ⟨c0, c1⟩ := hcl k x hx
    by_cases hn : n ≠ 0 ∧ n ≠ 1
    · have e1 : failE m k n = 1 := by unfold failE; rw [if_neg h0, if_pos hn]
      have e2 : failW m k n = m := by unfold failW; rw [e1]; rfl
      rw [e1, e2]
      obtain ⟨n0, n1⟩ := hn
      have n0b : (n != 0) = true := by simpa using n0
      have n1b : (n != 1) = true := by simpa using n1
      clear h0 hA e e1 e2 h hcl c0 c1 hx n0 n1
      go_enter Tryz.func57, Tryz.ntmps57
      go_wp2_with fail
      go_ret
      exact ⟨rfl, HC.out⟩
    · have e1 : failE m k n = 0 := by unfold failE; rw [if_neg h0, if_neg hn]
      have e2 : failW m k n = { m with fails := m.fails.set k (n == 1) } := by unfold failW; rw [if_pos e1]; rfl
      have HF := Lib.hid (h.failSet e hk (n == 1))
      rw [e1, e2]
      rcases (show n = 0 ∨ n = 1 by omega) with rfl | rfl
      all_goals
        clear h0 hA e e1 e2 h hcl hx hn
        go_enter Tryz.func57, Tryz.ntmps57
        go_wp2_with fail
        go_ret
        exact ⟨rfl, HF.out⟩
end Go.Proofs.YtlfaogkdghnmcaaGreat
