/- The contract of the reference's Scale. -/
import Derived.Test.YtidonhndeohdlaaGreatWl07
set_option linter.unusedVariables false
set_option linter.unusedSimpArgs false
set_option maxRecDepth 100000
set_option maxHeartbeats 12800000
namespace Go.Proofs.YtidonhndeohdlaaGreat
open Go.RowKit
theorem creScale (S : Nat → Prop) (g : Nat) (v : Value) (l : List G.Pod) (last most n : Int) (w : World) (h : FAt 78 S w g v l last most) (hcr : G.Crewed l last most) (hm : 0 ≤ most) (hsm : l.length ≤ 9000000) (hla : last ≤ 1000000000000) :
  Calls Tryz.prog 84 #[.pointer (some ⟨g, 0, none⟩), .int .i64 n] w (ScalePost 78 S w g l last most n) := by
 have HH := J h
 clear h
 by_cases hbad : n < 0 ∨ 50 < n
 ·have HF := J (scale_no HH.u hbad)
  go_enter Tryz.func84, Tryz.ntmps84
  go_wp2_with fail
  refine (refIn_no n 0 50 _ hbad).mono ?_
  rintro e w1 ⟨rfl, rfl⟩
  go_wp2_with fail
  go_ret
  exact HF.u
 have h1' : 0 ≤ n := by omega
 have h2' : n ≤ 50 := by omega
 have hnn := G.liveN_nn l
 have HU := J (show G.scaleUp l n = (n - G.liveN l).toNat by unfold G.scaleUp; rw [if_neg (by omega)])
 have HD := J (show G.scaleDown l n = (G.liveN l - n).toNat by unfold G.scaleDown; rw [if_neg (by omega)])
 have HE := J (show G.scaleErr n = 0 by unfold G.scaleErr; rw [if_neg (by omega)])
 have HCr := J hcr
 have hl0 := hcr.last0
 obtain ⟨i0, hi, hz0, hz1, hz2⟩ := info_parts fle_info
 have hUle := J (show G.scaleUp l n ≤ 50 by rw [HU.u]; omega)
 clear hbad hcr
 go_enter Tryz.func84, Tryz.ntmps84
 go_wp2_with fail
 refine (refIn_yes n 0 50 _ h1' h2').mono ?_
 rintro e w1 ⟨rfl, rfl⟩
 go_wp2_with fail
 go_loopg [] (G.scaleUp l n) (fun k wr => ∃ (m : Nat) (vk : Value), m ≤ G.scaleUp l n ∧ k = G.scaleUp l n - m ∧ Hid (FAt 78 (G.Plus S w wr) wr g vk (l ++ G.newPods last m) (last + m) most ∧ G.Chg S w wr))
 case atStart => exact ⟨0, _, by omega, by omega, J ⟨by simpa [G.newPods] using HH.u.up, G.Chg.refl _ _⟩⟩
 obtain ⟨m, vk, hmk, hke, HF⟩ := hrel
 have HKe := J hke; have HMk := J hmk
 have HLv := J (G.live_more l last m)
 have hL : (l ++ G.newPods last m).length < 10000000 := by simp [G.newPods_length]; have := hUle.u; omega
 have HLL := J hL
 have HSucc := J (show l ++ G.newPods last (m + 1) = (l ++ G.newPods last m) ++ [⟨last + 1 + m, 1, 0⟩] by rw [G.newPods_succ, List.append_assoc])
 have HAll := J (show G.scaleLst l last n = G.thinN (G.scaleDown l n) (l ++ G.newPods last (G.scaleUp l n)) from rfl)
 have HLast := J (show G.scaleLast l last n = last + (G.scaleUp l n : Nat) from rfl)
 have HCm := J (HCr.u.more hm m)
 clear hke hmk hL
 by_cases hlt : m < G.scaleUp l n
 ·have hcmp : G.liveN (l ++ G.newPods last m) < n := by have e := HLv.u; have e2 := HU.u; omega
  have HM := J hlt
  have hmm : (m : Int) ≤ 50 := by have := hUle.u; omega
  clear hlt HAll HLast
  go_wp2_with fail
  refine (creCount _ g vk _ _ most _ HF.u.1).mono ?_
  rintro e w1 ⟨rfl, rfl⟩
  have hb1 := Below.refl wr.heap.size wr
  have HC1 := J (HF.u.2.step_below hb1 HF.u.2.size)
  have h1F := (HF.u.1.below hb1).wide hb1.size HC1.u.size
  have hd := h1F.head.here (i := 1) rfl
  have fd := h1F.head.soft 1
  have t1 := h1F.tick (by decide) (last + m + 1)
  have HT := J (show FAt 78 (G.Plus S w (wr.setCell ⟨g, 1, none⟩ (.int .i64 (last + m + 1)))) (wr.setCell ⟨g, 1, none⟩ (.int .i64 (last + m + 1))) g vk (l ++ G.newPods last m) (last + m + 1) most ∧ G.Chg S w (wr.setCell ⟨g, 1, none⟩ (.int .i64 (last + m + 1))) from ⟨t1.1.wide t1.2.size (by have := t1.2.size; have := HC1.u.size; omega), HC1.u.plus t1.2⟩)
  clear hb1 h1F t1 HF HC1
  generalize G.liveN (l ++ G.newPods last m) = cN at hcmp HLv ⊢
  generalize l ++ G.newPods last m = L at HT HSucc HLL HCm ⊢
  go_upto_region 5 with fail
  clear hd fd hcmp
  obtain ⟨W, hW⟩ : ∃ W, Hid (wr.setCell ⟨g, 1, none⟩ (.int .i64 (last + m + 1)) = W) := ⟨_, J rfl⟩
  rw [hW.u] at HT ⊢
  have hc : W.cell? ⟨g, 0, none⟩ = some vk := HT.u.1.head.here rfl
  have hd := HT.u.1.head.here (i := 1) rfl
  have f0 := HT.u.1.head.soft 0
  have hgw : g < W.heap.size := HT.u.1.head.inside
  have hm3 : Hid (L.length + 1 ≤ maxLen) := J (by have := HLL.u; simp only [maxLen]; omega)
  have hm4 : Hid ((L.length + 1) * 24 ≤ 140737488355328) := J (by have := HLL.u; omega)
  clear hW
  go_wp2_with fail
  go_region_law (refine step_append_lies _ (by rfl) (.tmp 27) (.tmp 33) 76 (by rfl) 0 101 i0 (.agg #[.int .i64 0, .int .i64 0, .int .i64 0]) 3 24 Tryz.underlying76 hi hz0 hz1 hz2 rfl (by decide) vk _ _ rfl (HT.u.1.alloc _).drew.row.owns ⟨W.heap.size, 0, none⟩ 1 1 [.int .i64 (last + m + 1), .int .i64 1, .int .i64 0] rfl rfl (G.new_cells_at rfl) (by simp [Value.oneCell']) (by decide) hm3.u hm4.u (Nat.zero_le _) _ rfl ?_; intro b cap w3 hown hg ho hlt; obtain ⟨⟨d9, f9⟩, hA, hC⟩ := HT.u.1.drew.app (r := ⟨last + m + 1, 1, 0⟩) (by decide) HLL.u hown hg (ho.imp id (fun e => e.trans (fle_alloc_size _ _))) hlt)
  all_goals
   have HN := J (FAt.plus (w := W.drew) HT.u.2.drew hA hC)
   clear hown hg ho hlt hA hC hc hd f0 d9 f9 hgw
   go_wp2_with fail
   go_roundg (G.scaleUp l n - (m + 1))
   case measure => have := HM.u; have := HKe.u; omega
   case rel => exact ⟨m + 1, _, by have := HM.u; omega, rfl, J ⟨by rw [HSucc.u, show last + 1 + (m : Int) = last + m + 1 by omega, show last + ((m + 1 : Nat) : Int) = last + m + 1 by omega]; exact HN.u.1, HN.u.2⟩⟩
 have hme : m = G.scaleUp l n := by have := HMk.u; omega
 subst hme
 have hcmp : n ≤ G.liveN (l ++ G.newPods last (G.scaleUp l n)) := by have e := HLv.u; have e2 := HU.u; omega
 have HLv2 := J (show G.liveN (l ++ G.newPods last (G.scaleUp l n)) - n = (G.scaleDown l n : Int) by have e := HLv.u; have e2 := HU.u; have e3 := HD.u; omega)
 clear hlt HSucc
 rw [← HLast.u] at HF HCm
 generalize l ++ G.newPods last (G.scaleUp l n) = L at HF HAll HLv2 HCm hcmp HLL HLv ⊢
 go_wp2_with fail
 refine (creCount _ g vk _ _ most _ HF.u.1).mono ?_
 rintro e w1 ⟨rfl, rfl⟩
 have hb1 := Below.refl wr.heap.size wr
 have HC1 := J (HF.u.2.step_below hb1 HF.u.2.size)
 have H1 := J (show FAt 78 (G.Plus S w wr) wr g vk L (G.scaleLast l last n) most ∧ G.Chg S w wr from ⟨(HF.u.1.below hb1).wide hb1.size HC1.u.size, HC1.u⟩)
 clear hb1 HF HC1
 go_wp2_with fail
 go_loopg [] (G.scaleDown l n) (fun k wr => ∃ (j : Nat) (vj : Value), j ≤ G.scaleDown l n ∧ k = G.scaleDown l n - j ∧ Hid (FAt 78 (G.Plus S w wr) wr g vj (G.thinN j L) (G.scaleLast l last n) most ∧ G.Chg S w wr))
 case atStart => exact ⟨0, _, by omega, by omega, H1⟩
 clear H1
 obtain ⟨j, vj, hjk, hke, HF⟩ := hrel
 have hfn := J (HCm.u.thinN j (by have := HLv2.u; omega))
 have HKe := J hke; have HJk := J hjk
 have HS := J (G.thinN_succ j L)
 clear hke hjk
 go_wp2_with fail
 refine (creCount _ g vj _ _ most _ HF.u.1).mono ?_
 rintro e w2 ⟨rfl, rfl⟩
 have hb2 := Below.refl wr.heap.size wr
 have HC2 := J (HF.u.2.step_below hb2 HF.u.2.size)
 have H2 := J (show FAt 78 (G.Plus S w wr) wr g vj (G.thinN j L) (G.scaleLast l last n) most ∧ G.Chg S w wr from ⟨(HF.u.1.below hb2).wide hb2.size HC2.u.size, HC2.u⟩)
 clear hb2 HF HC2
 by_cases hlt : j < G.scaleDown l n
 ·have hcm2 : n < G.liveN (G.thinN j L) := by have := hfn.u.2.1; have := HLv2.u; omega
  have HJ := J hlt
  have HP := J (show 0 < G.liveN (G.thinN j L) by omega)
  clear hlt hcmp
  generalize G.liveN (G.thinN j L) = cN at hcm2 ⊢
  obtain ⟨i, p, hpk, hp, hfw⟩ := G.refPick_fewer hfn.u.1 HP.u
  have HPk := J hpk; have HPi := J hp
  have HUp := J hfn.u.1.up
  have HFw := J (HS.u.trans hfw)
  have hq := H2.u.1.small
  clear hpk hp hfw HS HP hfn
  generalize G.thinN j L = Q at H2 HPk HPi HUp HFw hq ⊢
  obtain ⟨A, cap, rfl, _, _, _⟩ := H2.u.1.row.slice
  obtain ⟨wo, rfl⟩ : ∃ wo : World, wo = wr := ⟨_, rfl⟩
  go_wp2_with fail
  clear hcm2
  go_loopw [5, 6] (fun b i wr => ∃ k : Nat, k ≤ Q.length ∧ i = .int .i64 k ∧ b = .int .i64 (G.idxOf (G.refPick Q k)) ∧ Hid (Below wo.heap.size wo wr)) (fun _ i _ => Q.length - (intOf i).toNat)
  case atStart => exact ⟨0, by omega, rfl, rfl, J (Below.refl _ _)⟩
  obtain ⟨k, hk, rfl, rfl, HB0⟩ := hrel
  have hc : wr.cell? ⟨g, 0, none⟩ = some (.slice A Q.length cap) := (H2.u.1.below HB0.u).head.here rfl
  by_cases hlt : k < Q.length
  ·obtain ⟨p', hp'⟩ := G.get_some Q hlt
   obtain ⟨b, cap', e, hS, _, _, hbl, c0, c1, c2, _⟩ := (H2.u.1.below HB0.u).pod hp'
   cases e
   have i0 : (0 : Int) ≤ (k : Int) := by omega
   have i1 : (k : Int) < (Q.length : Int) := by omega
   have HU := J (refPick_succ hp')
   have HG := J (show ∀ i, G.refPick Q k = some i → ∃ q, Q[i]? = some q ∧ i < Q.length from fun i hi => by obtain ⟨_, q, h2, _⟩ := G.pick_lt hi; exact ⟨q, h2, G.get_lt h2⟩)
   have HB := J (HB0.u.alloc HB0.u.size (.cells #[.int .i64 p'.id, .int .i64 p'.state, .int .i64 p'.load] 101))
   have HX := J (G.At.made wr 101 #[.int .i64 p'.id, .int .i64 p'.state, .int .i64 p'.load])
   clear hp'
   cases hf : (p'.state == 4)
   ·have hlv : G.lives p' = true := by unfold G.lives; rw [hf]; rfl
    cases hj : G.refPick Q k with
    | none =>
     have HN := J (show G.refPick Q (k + 1) = some k by rw [HU.u, hj, hlv]; rfl)
     simp only [G.idxOf]
     clear hj HU hlv HG
     go_wp2_with fail
     go_quiet (fail)
     go_wp2_with fail
     go_roundw
     case rel => exact ⟨k + 1, by omega, by go_num, by rw [HN.u] <;> rfl, J (fle_drewN HB.u _)⟩
     case measure => simp [intOf]; omega
    | some t =>
     obtain ⟨q, hq1, hq2⟩ := HG.u t hj
     obtain ⟨b', cap', e, _, _, _, _, d0, d1, d2, _⟩ := (H2.u.1.below HB.u).pod hq1
     cases e
     have hc' : (wr.alloc (.cells #[.int .i64 p'.id, .int .i64 p'.state, .int .i64 p'.load] 101)).cell? ⟨g, 0, none⟩ = some (.slice (some ⟨b, 0, none⟩) Q.length cap) := (H2.u.1.below HB.u).head.here rfl
     have x0 := HX.u.here (i := 0) rfl; have x1 := HX.u.here (i := 1) rfl; have x2 := HX.u.here (i := 2) rfl
     simp only [G.idxOf]
     have j0 : (0 : Int) ≤ (t : Int) := by omega
     have j1 : (t : Int) < (Q.length : Int) := by omega
     have jn : decide ((t : Int) < 0) = false := decide_eq_false (by omega)
     have HL := J (show G.refPick Q (k + 1) = if G.refLess p' q then some k else some t by rw [HU.u, hj, hlv]; simp only [G.beats, hq1, Bool.true_and])
     clear hj HU hlv HG hq1
     go_upto_region 12 with fail
     clear c0 c1 c2 hc
     generalize wr.alloc (.cells #[.int .i64 p'.id, .int .i64 p'.state, .int .i64 p'.load] 101) = W at HB HX hc' d0 d1 d2 x0 x1 x2 ⊢
     by_cases s1 : p'.state < q.state
     ·have HN := J (show G.refPick Q (k + 1) = some k by rw [HL.u, if_pos (by unfold G.refLess; simp [s1])])
      go_wp2_with fail
      go_quiet (fail)
      go_wp2_with fail
      go_roundw
      case rel => exact ⟨k + 1, by omega, by go_num, by rw [HN.u] <;> rfl, J (fle_drewN HB.u _)⟩
      case measure => simp [intOf]; omega
     have s1' : decide (p'.state < q.state) = false := decide_eq_false s1
     cases s2 : (p'.state == q.state)
     ·have HN := J (show G.refPick Q (k + 1) = some t by rw [HL.u, if_neg (by unfold G.refLess; simp [s1, s2])])
      go_wp2_with fail
      go_quiet (fail)
      go_wp2_with fail
      go_roundw
      case rel => exact ⟨k + 1, by omega, by go_num, by rw [HN.u] <;> rfl, J (fle_drewN HB.u _)⟩
      case measure => simp [intOf]; omega
     cases s3 : (p'.state == 3)
     ·have s3' : (p'.state != 3) = true := by simp only [bne, s3]; rfl
      have HN := J (show G.refPick Q (k + 1) = some k by rw [HL.u, if_pos (by unfold G.refLess; simp [s1, s2, s3])])
      go_wp2_with fail
      go_quiet (fail)
      go_wp2_with fail
      go_roundw
      case rel => exact ⟨k + 1, by omega, by go_num, by rw [HN.u] <;> rfl, J (fle_drewN HB.u _)⟩
      case measure => simp [intOf]; omega
     have s3' : (p'.state != 3) = false := by simp only [bne, s3]; rfl
     by_cases s4 : p'.load ≤ q.load
     ·have HN := J (show G.refPick Q (k + 1) = some k by rw [HL.u, if_pos (by unfold G.refLess; simp [s1, s2, s3, s4])])
      go_wp2_with fail
      go_quiet (fail)
      go_wp2_with fail
      go_roundw
      case rel => exact ⟨k + 1, by omega, by go_num, by rw [HN.u] <;> rfl, J (fle_drewN HB.u _)⟩
      case measure => simp [intOf]; omega
     have s4' : decide (p'.load ≤ q.load) = false := decide_eq_false s4
     have HN := J (show G.refPick Q (k + 1) = some t by rw [HL.u, if_neg (by unfold G.refLess; simp [s1, s2, s3, s4])])
     go_wp2_with fail
     go_quiet (fail)
     go_wp2_with fail
     go_roundw
     case rel => exact ⟨k + 1, by omega, by go_num, by rw [HN.u] <;> rfl, J (fle_drewN HB.u _)⟩
     case measure => simp [intOf]; omega
   have HN := J (show G.refPick Q (k + 1) = G.refPick Q k by rw [HU.u, show G.lives p' = false by unfold G.lives; rw [hf]; rfl]; rfl)
   clear HU HG
   go_wp2_with fail
   go_roundw
   case rel => exact ⟨k + 1, by omega, by go_num, by rw [HN.u], HB⟩
   case measure => simp [intOf]; omega
  have hke : k = Q.length := by omega
  subst hke
  rw [HPk.u]
  simp only [G.idxOf]
  have hC2 := H2.u.2.step_below HB0.u H2.u.2.size
  have HW := J (show FAt 78 (G.Plus S w wr) wr g (.slice A Q.length cap) Q (G.scaleLast l last n) most ∧ G.Chg S w wr from ⟨(H2.u.1.below HB0.u).wide HB0.u.size hC2.size, hC2⟩)
  obtain ⟨b, cap', e, hS, _, _, hbl, c0, c1, c2, fz⟩ := HW.u.1.pod HPi.u
  cases e
  have hil := G.get_lt HPi.u
  have i0 : (0 : Int) ≤ (i : Int) := by omega
  have i1 : (i : Int) < (Q.length : Int) := by omega
  have f1 := fz (i * 3 + 1)
  clear hC2 fz
  by_cases d : p.state = 3 ∧ 0 < p.load
  ·obtain ⟨d1, d2⟩ := d
   have p1 := HW.u.1.put (by decide) (k := i) (j := 1) (r' := { p with state := 4 }) (u := .int .i64 4) HPi.u (by decide) rfl
   have HN := J (show FAt 78 (G.Plus S w (wr.setCell ⟨b, i * 3 + 1, none⟩ (.int .i64 4))) (wr.setCell ⟨b, i * 3 + 1, none⟩ (.int .i64 4)) g (.slice (some ⟨b, 0, none⟩) Q.length cap) (G.thinN (j + 1) L) (G.scaleLast l last n) most ∧ G.Chg S w (wr.setCell ⟨b, i * 3 + 1, none⟩ (.int .i64 4)) from ⟨by rw [HFw.u, if_pos ⟨d1, d2⟩]; exact p1.1.wide p1.2.size (by have := p1.2.size; have := HW.u.2.size; omega), HW.u.2.plus p1.2⟩)
   rw [d1] at c1
   clear p1
   go_wp2_with fail
   go_roundg (G.scaleDown l n - (j + 1))
   case measure => have := HJ.u; have := HKe.u; omega
   case rel => exact ⟨j + 1, _, by have := HJ.u; omega, rfl, HN⟩
  have HE2 := J (show Q.filter (G.otherId p.id) = G.thinN (j + 1) L by rw [HFw.u, if_neg d]; exact G.filter_erase HUp.u HPi.u)
  cases d1 : (p.state == 3)
  ·clear d
   go_wp2_with fail
   refine (creOut _ g _ Q _ most p.id _ HW.u.1).mono ?_
   rintro e w3 ⟨⟨x, rfl⟩, ⟨v3, h3⟩, c3⟩
   have HN := J (FAt.plus HW.u.2 h3 c3)
   rw [HE2.u] at HN
   clear h3 c3 c0 c1 c2 f1 hc
   go_wp2_with fail
   go_roundg (G.scaleDown l n - (j + 1))
   case measure => have := HJ.u; have := HKe.u; omega
   case rel => exact ⟨j + 1, _, by have := HJ.u; omega, rfl, HN⟩
  have d2 : decide (0 < p.load) = false := decide_eq_false (fun h => d ⟨by simpa using d1, h⟩)
  clear d
  go_wp2_with fail
  refine (creOut _ g _ Q _ most p.id _ HW.u.1).mono ?_
  rintro e w3 ⟨⟨x, rfl⟩, ⟨v3, h3⟩, c3⟩
  have HN := J (FAt.plus HW.u.2 h3 c3)
  rw [HE2.u] at HN
  clear h3 c3 c0 c1 c2 f1 hc
  go_wp2_with fail
  go_roundg (G.scaleDown l n - (j + 1))
  case measure => have := HJ.u; have := HKe.u; omega
  case rel => exact ⟨j + 1, _, by have := HJ.u; omega, rfl, HN⟩
 have hje : j = G.scaleDown l n := by have := HJk.u; omega
 subst hje
 have hcm2 : G.liveN (G.thinN (G.scaleDown l n) L) ≤ n := by have := hfn.u.2.1; have := HLv2.u; omega
 have HR := J (show ScalePost 78 S w g l last most n (.returned (.int .i64 0)) wr from ⟨by rw [HE.u], ⟨_, by rw [HAll.u]; exact H2.u.1⟩, H2.u.2⟩)
 clear hlt hcmp
 generalize G.liveN (G.thinN (G.scaleDown l n) L) = cN at hcm2 ⊢
 go_wp2_with fail
 go_ret
 exact HR.u
end Go.Proofs.YtidonhndeohdlaaGreat
