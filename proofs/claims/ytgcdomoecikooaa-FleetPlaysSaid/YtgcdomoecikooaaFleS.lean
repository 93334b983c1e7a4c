/- The contract of the reference's Scale. -/
import Derived.Test.YtgcdomoecikooaaFleO
namespace Go.Proofs.Ytgcdomoecikooaa
open Go.RowKit
set_option linter.unusedVariables false
set_option maxRecDepth 100000 in
set_option maxHeartbeats 12800000 in
theorem creScale (S : Nat → Prop) (g : Nat) (v : Value) (l : List Tide.Pod) (last most n : Int) (w : World) (h : FAt 71 S w g v l last most) (hcr : Tide.Crewed l last most) (hm : 0 ≤ most) (hsm : l.length ≤ 9000000) (hla : last ≤ 1000000000000) :
    Calls Try.prog 43 #[.pointer (some ⟨g, 0, none⟩), .int .i64 n] w (ScalePost 71 S w g l last most n) := by
  have HH := Lib.hid h
  clear h
  by_cases hbad : n < 0 ∨ 50 < n
  · have HF := Lib.hid (scale_no HH.out hbad)
    go_enter Try.func43, Try.ntmps43
    go_wp2_with fail
    refine (refIn_no n 0 50 _ hbad).mono ?_
    rintro e w1 ⟨rfl, rfl⟩
    go_wp2_with fail
    go_ret
    exact HF.out
  have h1' : 0 ≤ n := by omega
  have h2' : n ≤ 50 := by omega
  have hnn := Tide.liveN_nn l
  have HU := Lib.hid (show Tide.scaleUp l n = (n - Tide.liveN l).toNat by unfold Tide.scaleUp; rw [if_neg (by omega)])
  have HD := Lib.hid (show Tide.scaleDown l n = (Tide.liveN l - n).toNat by unfold Tide.scaleDown; rw [if_neg (by omega)])
  have HE := Lib.hid (show Tide.scaleErr n = 0 by unfold Tide.scaleErr; rw [if_neg (by omega)])
  have HCr := Lib.hid hcr
  have hl0 := hcr.last0
  obtain ⟨i0, hi, hz0, hz1, hz2⟩ := info_parts fle_info
  have hUle := Lib.hid (show Tide.scaleUp l n ≤ 50 by rw [HU.out]; omega)
  clear hbad hcr
  go_enter Try.func43, Try.ntmps43
  go_wp2_with fail
  refine (refIn_yes n 0 50 _ h1' h2').mono ?_
  rintro e w1 ⟨rfl, rfl⟩
  go_wp2_with fail
  go_loopg [] (Tide.scaleUp l n) (fun k wr => ∃ (m : Nat) (vk : Value), m ≤ Tide.scaleUp l n ∧ k = Tide.scaleUp l n - m ∧ Hid (FAt 71 (Tide.Plus S w wr) wr g vk (l ++ Tide.newPods last m) (last + m) most ∧ Tide.Chg S w wr))
  case atStart => exact ⟨0, _, by omega, by omega, Lib.hid ⟨by simpa [Tide.newPods] using HH.out.up, Tide.Chg.refl _ _⟩⟩
  case round =>
    obtain ⟨m, vk, hmk, hke, HF⟩ := hrel
    have HKe := Lib.hid hke; have HMk := Lib.hid hmk
    have HLv := Lib.hid (Tide.live_more l last m)
    have hL : (l ++ Tide.newPods last m).length < 10000000 := by simp [Tide.newPods_length]; have := hUle.out; omega
    have HLL := Lib.hid hL
    have HSucc := Lib.hid (show l ++ Tide.newPods last (m + 1) = (l ++ Tide.newPods last m) ++ [⟨last + 1 + m, 1, 0⟩] by rw [Tide.newPods_succ, List.append_assoc])
    have HAll := Lib.hid (show Tide.scaleLst l last n = Tide.fewerN (Tide.scaleDown l n) (l ++ Tide.newPods last (Tide.scaleUp l n)) from rfl)
    have HLast := Lib.hid (show Tide.scaleLast l last n = last + (Tide.scaleUp l n : Nat) from rfl)
    have HCm := Lib.hid (HCr.out.more hm m)
    clear hke hmk hL
    by_cases hlt : m < Tide.scaleUp l n
    · have hcmp : Tide.liveN (l ++ Tide.newPods last m) < n := by have e := HLv.out; have e2 := HU.out; omega
      have HM := Lib.hid hlt
      have hmm : (m : Int) ≤ 50 := by have := hUle.out; omega
      clear hlt HAll HLast
      go_wp2_with fail
      refine (creCount _ g vk _ _ most _ HF.out.1).mono ?_
      rintro e w1 ⟨rfl, rfl⟩
      have hb1 := Below.refl wr.heap.size wr
      have HC1 := Lib.hid (HF.out.2.step_below hb1 HF.out.2.size)
      have h1F := (HF.out.1.below hb1).wide hb1.size HC1.out.size
      have hd := h1F.head.here (i := 1) rfl
      have fd := h1F.head.soft 1
      have t1 := h1F.tick (by decide) (last + m + 1)
      have HT := Lib.hid (show FAt 71 (Tide.Plus S w (wr.setCell ⟨g, 1, none⟩ (.int .i64 (last + m + 1)))) (wr.setCell ⟨g, 1, none⟩ (.int .i64 (last + m + 1))) g vk (l ++ Tide.newPods last m) (last + m + 1) most ∧ Tide.Chg S w (wr.setCell ⟨g, 1, none⟩ (.int .i64 (last + m + 1))) from ⟨t1.1.wide t1.2.size (by have := t1.2.size; have := HC1.out.size; omega), HC1.out.plus t1.2⟩)
      clear hb1 h1F t1 HF HC1
      generalize Tide.liveN (l ++ Tide.newPods last m) = cN at hcmp HLv ⊢
      generalize l ++ Tide.newPods last m = L at HT HSucc HLL HCm ⊢
      go_upto_region 5 with fail
      clear hd fd hcmp
      obtain ⟨W, hW⟩ : ∃ W, Hid (wr.setCell ⟨g, 1, none⟩ (.int .i64 (last + m + 1)) = W) := ⟨_, Lib.hid rfl⟩
      rw [hW.out] at HT ⊢
      have hc : W.cell? ⟨g, 0, none⟩ = some vk := HT.out.1.head.here rfl
      have hd : W.cell? ⟨g, 1, none⟩ = some (.int .i64 (last + m + 1)) := HT.out.1.head.here rfl
      have f0 := HT.out.1.head.soft 0
      have hgw : g < W.heap.size := HT.out.1.head.inside
      have hm3 : Hid (L.length + 1 ≤ maxLen) := Lib.hid (by have := HLL.out; simp only [maxLen]; omega)
      have hm4 : Hid ((L.length + 1) * 24 ≤ 140737488355328) := Lib.hid (by have := HLL.out; omega)
      clear hW
      go_wp2_with fail
      go_region_law (refine step_append_lies _ (by rfl) (.tmp 27) (.tmp 33) 58 (by rfl) 0 64 i0 (.agg #[.int .i64 0, .int .i64 0, .int .i64 0]) 3 24 Try.underlying58 hi hz0 hz1 hz2 rfl (by decide) vk _ _ rfl (HT.out.1.alloc _).drew.row.owns ⟨W.heap.size, 0, none⟩ 1 1 [.int .i64 (last + m + 1), .int .i64 1, .int .i64 0] rfl rfl (Tide.new_cells_at rfl) (by simp [Value.oneCell']) (by decide) hm3.out hm4.out (Nat.zero_le _) _ rfl ?_; intro b cap w3 hown hg ho hlt; obtain ⟨⟨d9, f9⟩, hA, hC⟩ := HT.out.1.drew.app (r := ⟨last + m + 1, 1, 0⟩) (by decide) HLL.out hown hg (ho.imp id (fun e => e.trans (fle_alloc_size _ _))) hlt)
      all_goals
        have HN := Lib.hid (FAt.plus (w := W.drew) HT.out.2.drew hA hC)
        clear hown hg ho hlt hA hC hc hd f0 d9 f9 hgw
        go_wp2_with fail
        go_roundg (Tide.scaleUp l n - (m + 1))
        case measure => have := HM.out; have := HKe.out; omega
        case rel => exact ⟨m + 1, _, by have := HM.out; omega, rfl, Lib.hid ⟨by rw [HSucc.out, show last + 1 + (m : Int) = last + m + 1 by omega, show last + ((m + 1 : Nat) : Int) = last + m + 1 by omega]; exact HN.out.1, HN.out.2⟩⟩
    · have hme : m = Tide.scaleUp l n := by have := HMk.out; omega
      subst hme
      have hcmp : n ≤ Tide.liveN (l ++ Tide.newPods last (Tide.scaleUp l n)) := by have e := HLv.out; have e2 := HU.out; omega
      have HLv2 := Lib.hid (show Tide.liveN (l ++ Tide.newPods last (Tide.scaleUp l n)) - n = (Tide.scaleDown l n : Int) by have e := HLv.out; have e2 := HU.out; have e3 := HD.out; omega)
      clear hlt HSucc
      rw [← HLast.out] at HF HCm
      generalize l ++ Tide.newPods last (Tide.scaleUp l n) = L at HF HAll HLv2 HCm hcmp HLL HLv ⊢
      go_wp2_with fail
      refine (creCount _ g vk _ _ most _ HF.out.1).mono ?_
      rintro e w1 ⟨rfl, rfl⟩
      have hb1 := Below.refl wr.heap.size wr
      have HC1 := Lib.hid (HF.out.2.step_below hb1 HF.out.2.size)
      have H1 := Lib.hid (show FAt 71 (Tide.Plus S w wr) wr g vk L (Tide.scaleLast l last n) most ∧ Tide.Chg S w wr from ⟨(HF.out.1.below hb1).wide hb1.size HC1.out.size, HC1.out⟩)
      clear hb1 HF HC1
      go_wp2_with fail
      go_loopg [] (Tide.scaleDown l n) (fun k wr => ∃ (j : Nat) (vj : Value), j ≤ Tide.scaleDown l n ∧ k = Tide.scaleDown l n - j ∧ Hid (FAt 71 (Tide.Plus S w wr) wr g vj (Tide.fewerN j L) (Tide.scaleLast l last n) most ∧ Tide.Chg S w wr))
      case atStart => exact ⟨0, _, by omega, by omega, H1⟩
      case round =>
        clear H1
        obtain ⟨j, vj, hjk, hke, HF⟩ := hrel
        have hfn := Lib.hid (HCm.out.fewerN j (by have := HLv2.out; omega))
        have HKe := Lib.hid hke; have HJk := Lib.hid hjk
        have HS := Lib.hid (Tide.fewerN_succ j L)
        clear hke hjk
        go_wp2_with fail
        refine (creCount _ g vj _ _ most _ HF.out.1).mono ?_
        rintro e w2 ⟨rfl, rfl⟩
        have hb2 := Below.refl wr.heap.size wr
        have HC2 := Lib.hid (HF.out.2.step_below hb2 HF.out.2.size)
        have H2 := Lib.hid (show FAt 71 (Tide.Plus S w wr) wr g vj (Tide.fewerN j L) (Tide.scaleLast l last n) most ∧ Tide.Chg S w wr from ⟨(HF.out.1.below hb2).wide hb2.size HC2.out.size, HC2.out⟩)
        clear hb2 HF HC2
        by_cases hlt : j < Tide.scaleDown l n
        · have hcm2 : n < Tide.liveN (Tide.fewerN j L) := by have := hfn.out.2.1; have := HLv2.out; omega
          have HJ := Lib.hid hlt
          have HP := Lib.hid (show 0 < Tide.liveN (Tide.fewerN j L) by omega)
          clear hlt hcmp
          generalize Tide.liveN (Tide.fewerN j L) = cN at hcm2 ⊢
          obtain ⟨i, p, hpk, hp, hfw⟩ := Tide.refPick_fewer hfn.out.1 HP.out
          have HPk := Lib.hid hpk; have HPi := Lib.hid hp
          have HUp := Lib.hid hfn.out.1.up
          have HFw := Lib.hid (HS.out.trans hfw)
          have hq := H2.out.1.small
          clear hpk hp hfw HS HP hfn
          generalize Tide.fewerN j L = Q at H2 HPk HPi HUp HFw hq ⊢
          obtain ⟨A, cap, rfl, _, _, _⟩ := H2.out.1.row.slice
          obtain ⟨wo, rfl⟩ : ∃ wo : World, wo = wr := ⟨_, rfl⟩
          go_wp2_with fail
          clear hcm2
          go_loopw [5, 6] (fun b i wr => ∃ k : Nat, k ≤ Q.length ∧ i = .int .i64 k ∧ b = .int .i64 (Tide.idxOf (Tide.refPick Q k)) ∧ Hid (Below wo.heap.size wo wr)) (fun _ i _ => Q.length - (intOf i).toNat)
          case atStart => exact ⟨0, by omega, rfl, rfl, Lib.hid (Below.refl _ _)⟩
          case round =>
            obtain ⟨k, hk, rfl, rfl, HB0⟩ := hrel
            have hc : wr.cell? ⟨g, 0, none⟩ = some (.slice A Q.length cap) := (H2.out.1.below HB0.out).head.here rfl
            by_cases hlt : k < Q.length
            · obtain ⟨p', hp'⟩ := Tide.get_some Q hlt
              obtain ⟨b, cap', e, hS, _, _, hbl, c0, c1, c2, _⟩ := (H2.out.1.below HB0.out).pod hp'
              cases e
              have i0 : (0 : Int) ≤ (k : Int) := by omega
              have i1 : (k : Int) < (Q.length : Int) := by omega
              have HU := Lib.hid (refPick_succ hp')
              have HG := Lib.hid (show ∀ i, Tide.refPick Q k = some i → ∃ q, Q[i]? = some q ∧ i < Q.length from fun i hi => by obtain ⟨_, q, h2, _⟩ := Tide.pick_lt hi; exact ⟨q, h2, Tide.get_lt h2⟩)
              have HB := Lib.hid (HB0.out.alloc HB0.out.size (.cells #[.int .i64 p'.id, .int .i64 p'.state, .int .i64 p'.load] 64))
              have HX := Lib.hid (Tide.At.made wr 64 #[.int .i64 p'.id, .int .i64 p'.state, .int .i64 p'.load])
              clear hp'
              cases hf : (p'.state == 4)
              · have hlv : Tide.lives p' = true := by unfold Tide.lives; rw [hf]; rfl
                cases hj : Tide.refPick Q k with
                | none =>
                  have HN := Lib.hid (show Tide.refPick Q (k + 1) = some k by rw [HU.out, hj, hlv]; rfl)
                  simp only [Tide.idxOf]
                  clear hj HU hlv HG
                  go_wp2_with fail
                  go_quiet (fail)
                  go_wp2_with fail
                  go_roundw
                  case rel => exact ⟨k + 1, by omega, by go_num, by rw [HN.out] <;> rfl, Lib.hid (fle_drewN HB.out _)⟩
                  case measure => simp [intOf]; omega
                | some t =>
                  obtain ⟨q, hq1, hq2⟩ := HG.out t hj
                  obtain ⟨b', cap', e, _, _, _, _, d0, d1, d2, _⟩ := (H2.out.1.below HB.out).pod hq1
                  cases e
                  have hc' : (wr.alloc (.cells #[.int .i64 p'.id, .int .i64 p'.state, .int .i64 p'.load] 64)).cell? ⟨g, 0, none⟩ = some (.slice (some ⟨b, 0, none⟩) Q.length cap) := (H2.out.1.below HB.out).head.here rfl
                  have x0 := HX.out.here (i := 0) rfl; have x1 := HX.out.here (i := 1) rfl; have x2 := HX.out.here (i := 2) rfl
                  simp only [Tide.idxOf]
                  have j0 : (0 : Int) ≤ (t : Int) := by omega
                  have j1 : (t : Int) < (Q.length : Int) := by omega
                  have jn : decide ((t : Int) < 0) = false := decide_eq_false (by omega)
                  have HL := Lib.hid (show Tide.refPick Q (k + 1) = if Tide.refLess p' q then some k else some t by rw [HU.out, hj, hlv]; simp only [Tide.beats, hq1, Bool.true_and])
                  clear hj HU hlv HG hq1
                  go_upto_region 12 with fail
                  clear c0 c1 c2 hc
                  generalize wr.alloc (.cells #[.int .i64 p'.id, .int .i64 p'.state, .int .i64 p'.load] 64) = W at HB HX hc' d0 d1 d2 x0 x1 x2 ⊢
                  by_cases s1 : p'.state < q.state
                  · have HN := Lib.hid (show Tide.refPick Q (k + 1) = some k by rw [HL.out, if_pos (by unfold Tide.refLess; simp [s1])])
                    go_wp2_with fail
                    go_quiet (fail)
                    go_wp2_with fail
                    go_roundw
                    case rel => exact ⟨k + 1, by omega, by go_num, by rw [HN.out] <;> rfl, Lib.hid (fle_drewN HB.out _)⟩
                    case measure => simp [intOf]; omega
                  · have s1' : decide (p'.state < q.state) = false := decide_eq_false s1
                    cases s2 : (p'.state == q.state)
                    · have HN := Lib.hid (show Tide.refPick Q (k + 1) = some t by rw [HL.out, if_neg (by unfold Tide.refLess; simp [s1, s2])])
                      go_wp2_with fail
                      go_quiet (fail)
                      go_wp2_with fail
                      go_roundw
                      case rel => exact ⟨k + 1, by omega, by go_num, by rw [HN.out] <;> rfl, Lib.hid (fle_drewN HB.out _)⟩
                      case measure => simp [intOf]; omega
                    · cases s3 : (p'.state == 3)
                      · have s3' : (p'.state != 3) = true := by simp only [bne, s3]; rfl
                        have HN := Lib.hid (show Tide.refPick Q (k + 1) = some k by rw [HL.out, if_pos (by unfold Tide.refLess; simp [s1, s2, s3])])
                        go_wp2_with fail
                        go_quiet (fail)
                        go_wp2_with fail
                        go_roundw
                        case rel => exact ⟨k + 1, by omega, by go_num, by rw [HN.out] <;> rfl, Lib.hid (fle_drewN HB.out _)⟩
                        case measure => simp [intOf]; omega
                      · have s3' : (p'.state != 3) = false := by simp only [bne, s3]; rfl
                        by_cases s4 : p'.load ≤ q.load
                        · have HN := Lib.hid (show Tide.refPick Q (k + 1) = some k by rw [HL.out, if_pos (by unfold Tide.refLess; simp [s1, s2, s3, s4])])
                          go_wp2_with fail
                          go_quiet (fail)
                          go_wp2_with fail
                          go_roundw
                          case rel => exact ⟨k + 1, by omega, by go_num, by rw [HN.out] <;> rfl, Lib.hid (fle_drewN HB.out _)⟩
                          case measure => simp [intOf]; omega
                        · have s4' : decide (p'.load ≤ q.load) = false := decide_eq_false s4
                          have HN := Lib.hid (show Tide.refPick Q (k + 1) = some t by rw [HL.out, if_neg (by unfold Tide.refLess; simp [s1, s2, s3, s4])])
                          go_wp2_with fail
                          go_quiet (fail)
                          go_wp2_with fail
                          go_roundw
                          case rel => exact ⟨k + 1, by omega, by go_num, by rw [HN.out] <;> rfl, Lib.hid (fle_drewN HB.out _)⟩
                          case measure => simp [intOf]; omega
              · have HN := Lib.hid (show Tide.refPick Q (k + 1) = Tide.refPick Q k by rw [HU.out, show Tide.lives p' = false by unfold Tide.lives; rw [hf]; rfl]; rfl)
                clear HU HG
                go_wp2_with fail
                go_roundw
                case rel => exact ⟨k + 1, by omega, by go_num, by rw [HN.out], HB⟩
                case measure => simp [intOf]; omega
            · have hke : k = Q.length := by omega
              subst hke
              rw [HPk.out]
              simp only [Tide.idxOf]
              have hC2 := H2.out.2.step_below HB0.out H2.out.2.size
              have HW := Lib.hid (show FAt 71 (Tide.Plus S w wr) wr g (.slice A Q.length cap) Q (Tide.scaleLast l last n) most ∧ Tide.Chg S w wr from ⟨(H2.out.1.below HB0.out).wide HB0.out.size hC2.size, hC2⟩)
              obtain ⟨b, cap', e, hS, _, _, hbl, c0, c1, c2, fz⟩ := HW.out.1.pod HPi.out
              cases e
              have hil := Tide.get_lt HPi.out
              have i0 : (0 : Int) ≤ (i : Int) := by omega
              have i1 : (i : Int) < (Q.length : Int) := by omega
              have f1 := fz (i * 3 + 1)
              clear hC2 fz
              by_cases d : p.state = 3 ∧ 0 < p.load
              · obtain ⟨d1, d2⟩ := d
                have p1 := HW.out.1.put (by decide) (k := i) (j := 1) (r' := { p with state := 4 }) (u := .int .i64 4) HPi.out (by decide) rfl
                have HN := Lib.hid (show FAt 71 (Tide.Plus S w (wr.setCell ⟨b, i * 3 + 1, none⟩ (.int .i64 4))) (wr.setCell ⟨b, i * 3 + 1, none⟩ (.int .i64 4)) g (.slice (some ⟨b, 0, none⟩) Q.length cap) (Tide.fewerN (j + 1) L) (Tide.scaleLast l last n) most ∧ Tide.Chg S w (wr.setCell ⟨b, i * 3 + 1, none⟩ (.int .i64 4)) from ⟨by rw [HFw.out, if_pos ⟨d1, d2⟩]; exact p1.1.wide p1.2.size (by have := p1.2.size; have := HW.out.2.size; omega), HW.out.2.plus p1.2⟩)
                rw [d1] at c1
                clear p1
                go_wp2_with fail
                go_roundg (Tide.scaleDown l n - (j + 1))
                case measure => have := HJ.out; have := HKe.out; omega
                case rel => exact ⟨j + 1, _, by have := HJ.out; omega, rfl, HN⟩
              · have HE2 := Lib.hid (show Q.filter (Tide.otherId p.id) = Tide.fewerN (j + 1) L by rw [HFw.out, if_neg d]; exact Tide.filter_erase HUp.out HPi.out)
                cases d1 : (p.state == 3)
                · clear d
                  go_wp2_with fail
                  refine (creOut _ g _ Q _ most p.id _ HW.out.1).mono ?_
                  rintro e w3 ⟨⟨x, rfl⟩, ⟨v3, h3⟩, c3⟩
                  have HN := Lib.hid (FAt.plus HW.out.2 h3 c3)
                  rw [HE2.out] at HN
                  clear h3 c3 c0 c1 c2 f1 hc
                  go_wp2_with fail
                  go_roundg (Tide.scaleDown l n - (j + 1))
                  case measure => have := HJ.out; have := HKe.out; omega
                  case rel => exact ⟨j + 1, _, by have := HJ.out; omega, rfl, HN⟩
                · have d2 : decide (0 < p.load) = false := decide_eq_false (fun h => d ⟨by simpa using d1, h⟩)
                  clear d
                  go_wp2_with fail
                  refine (creOut _ g _ Q _ most p.id _ HW.out.1).mono ?_
                  rintro e w3 ⟨⟨x, rfl⟩, ⟨v3, h3⟩, c3⟩
                  have HN := Lib.hid (FAt.plus HW.out.2 h3 c3)
                  rw [HE2.out] at HN
                  clear h3 c3 c0 c1 c2 f1 hc
                  go_wp2_with fail
                  go_roundg (Tide.scaleDown l n - (j + 1))
                  case measure => have := HJ.out; have := HKe.out; omega
                  case rel => exact ⟨j + 1, _, by have := HJ.out; omega, rfl, HN⟩
        · have hje : j = Tide.scaleDown l n := by have := HJk.out; omega
          subst hje
          have hcm2 : Tide.liveN (Tide.fewerN (Tide.scaleDown l n) L) ≤ n := by have := hfn.out.2.1; have := HLv2.out; omega
          have HR := Lib.hid (show ScalePost 71 S w g l last most n (.returned (.int .i64 0)) wr from ⟨by rw [HE.out], ⟨_, by rw [HAll.out]; exact H2.out.1⟩, H2.out.2⟩)
          clear hlt hcmp
          generalize Tide.liveN (Tide.fewerN (Tide.scaleDown l n) L) = cN at hcm2 ⊢
          go_wp2_with fail
          go_ret
          exact HR.out
end Go.Proofs.Ytgcdomoecikooaa
