/- The walk of LoopFails. -/
import Derived.Test.YtcnoapogeohmkaaLopN
import Derived.Test.YtcnoapogeohmkaaLopK
import Derived.Test.YtcnoapogeohmkaaRestC
namespace Go.Proofs.Ytcnoapogeohmkaa
open Go.RowKit
set_option linter.unusedVariables false
/-- between two rounds of LoopFails -/
def FailAt (w0 w : World) (g : Nat) (mn back after : Int) (i : Nat) : Prop := ∃ l, LopRun w0 w.heap.size w g l ∧ FInv (failP mn back after) i l
theorem ret_failsR {w0 : World} {top g : Nat} {l : Lp} {j : Nat} {i : Int} {w : World} (h : LopRun w0 top w g l) (hl : l.ok j) : Calls Try.prog 12 #[.pointer (some ⟨g, 0, none⟩), .int .i64 i] w fun e w' => e = .returned (.int .i64 (failsAt l i)) ∧ w = w' := by
  obtain ⟨gs, vt, vf, vw, vm, S1, S2, h1, h2, h3⟩ := h
  exact lopFails _ g gs vt l S1 i w vf h1.head h1.fls (by have := hl.many; have := (planE_ok hl.plan).few; omega)
set_option maxRecDepth 100000 in
set_option maxHeartbeats 6400000 in
theorem loopFails_walk (m0 : Int) (hm0 : (Lit.int .i64 m0).wf = true) (b0 : Int) (hb0 : (Lit.int .i64 b0).wf = true) (a0 : Int) (ha0 : (Lit.int .i64 a0).wf = true) (h0 : Int) (hh0 : (Lit.int .i64 h0).wf = true) (w : World) :
    Calls Try.prog 4 #[.int .i64 m0, .int .i64 b0, .int .i64 a0, .int .i64 h0] w fun e w' => e = .returned (.bool true) ∧ Below w.heap.size w w' := by
  clear hm0 hb0 ha0 hh0
  go_enter Try.func4, Try.ntmps4
  go_wp2_with fail
  refine (looksC _).mono ?_
  rintro e w1 ⟨rfl, hb1⟩
  have HB1 := Lib.hid hb1
  clear hb1
  go_wp2_with fail
  refine (plainPlanC _).mono ?_
  rintro e w2 ⟨b, rfl, hL, hb2⟩
  have HL := Lib.hid hL
  have HB2 := Lib.hid (HB1.out.trans (hb2.mono HB1.out.size))
  clear hL hb2 HB1
  have HZ := Lib.hid (Tide.At.made w2 26 #[.string ⟨#[]⟩, .int .i64 0, .int .i64 0, .int .i64 0, .int .i64 0, .int .i64 0, .int .i64 0, .int .i64 0, .int .i64 0, .int .i64 0, .int .i64 0, .int .i64 0, .int .i64 0, .int .i64 0, .int .i64 0, .int .i64 0, .int .i64 0, .slice none 0 0])
  have HB3 := Lib.hid ((HB2.out.alloc HB2.out.size (.cells #[.string ⟨#[]⟩, .int .i64 0, .int .i64 0, .int .i64 0, .int .i64 0, .int .i64 0, .int .i64 0, .int .i64 0, .int .i64 0, .int .i64 0, .int .i64 0, .int .i64 0, .int .i64 0, .int .i64 0, .int .i64 0, .int .i64 0, .int .i64 0, .slice none 0 0] 26)).setRow (g := w2.heap.size) HB2.out.size (plnC plainP (.slice (some ⟨b, 0, none⟩) 1 1)))
  have HL3 := Lib.hid (HL.out.below (((Below.refl w2.heap.size w2).alloc (Nat.le_refl _) (.cells #[.string ⟨#[]⟩, .int .i64 0, .int .i64 0, .int .i64 0, .int .i64 0, .int .i64 0, .int .i64 0, .int .i64 0, .int .i64 0, .int .i64 0, .int .i64 0, .int .i64 0, .int .i64 0, .int .i64 0, .int .i64 0, .int .i64 0, .int .i64 0, .slice none 0 0] 26)).setRow (g := w2.heap.size) (Nat.le_refl _) (plnC plainP (.slice (some ⟨b, 0, none⟩) 1 1))) (Nat.le_refl _))
  have HP3 := Lib.hid (HZ.out.row_set (plnC plainP (.slice (some ⟨b, 0, none⟩) 1 1)))
  have HW2 := Lib.hid HB2.out.size
  have HWt := Lib.hid (Nat.le_refl w2.heap.size)
  have HBw := Lib.hid (((Below.refl w2.heap.size w2).alloc (Nat.le_refl _) (.cells #[.string ⟨#[]⟩, .int .i64 0, .int .i64 0, .int .i64 0, .int .i64 0, .int .i64 0, .int .i64 0, .int .i64 0, .int .i64 0, .int .i64 0, .int .i64 0, .int .i64 0, .int .i64 0, .int .i64 0, .int .i64 0, .int .i64 0, .int .i64 0, .slice none 0 0] 26)).setRow (g := w2.heap.size) (Nat.le_refl _) (plnC plainP (.slice (some ⟨b, 0, none⟩) 1 1)))
  go_upto_region 4 with (refine wpList_store_row rfl 26 (.tmp 9) (.tmp 19) rfl w2.heap.size (plnC plainP (.slice (some ⟨b, 0, none⟩) 1 1)) rfl rfl 26 #[.string ⟨#[]⟩, .int .i64 0, .int .i64 0, .int .i64 0, .int .i64 0, .int .i64 0, .int .i64 0, .int .i64 0, .int .i64 0, .int .i64 0, .int .i64 0, .int .i64 0, .int .i64 0, .int .i64 0, .int .i64 0, .int .i64 0, .int .i64 0, .slice none 0 0] HZ.out (by kernel_rfl) rfl (by kernel_rfl) ?_)
  generalize (w2.alloc (.cells #[.string ⟨#[]⟩, .int .i64 0, .int .i64 0, .int .i64 0, .int .i64 0, .int .i64 0, .int .i64 0, .int .i64 0, .int .i64 0, .int .i64 0, .int .i64 0, .int .i64 0, .int .i64 0, .int .i64 0, .int .i64 0, .int .i64 0, .int .i64 0, .slice none 0 0] 26)).setRow w2.heap.size (plnC plainP (.slice (some ⟨b, 0, none⟩) 1 1)) = W at HB3 HL3 HP3 HBw ⊢
  clear HB2 HZ
  obtain ⟨t9, ht9⟩ : ∃ t9, w2.heap.size = t9 := ⟨_, rfl⟩
  have HWt2 : Hid (w2.heap.size ≤ t9) := Lib.hid (by omega)
  rw [ht9] at HP3 HW2 HBw ⊢
  have HWt := HWt2
  clear ht9
  have c1 : W.cell? ⟨t9, 1, none⟩ = some (.int .i64 0) := HP3.out.here rfl
  have c6 : W.cell? ⟨t9, 6, none⟩ = some (.int .i64 0) := HP3.out.here rfl
  have c7 : W.cell? ⟨t9, 7, none⟩ = some (.int .i64 0) := HP3.out.here rfl
  have p1 := HP3.out.soft 1; have p6 := HP3.out.soft 6; have p7 := HP3.out.soft 7
  go_wp2_with fail
  refine (restC m0 5 _ (by omega) (by omega)).mono ?_
  rintro e w' ⟨rfl, rfl⟩
  have hm1 := Int.emod_nonneg m0 (show (5 : Int) ≠ 0 by omega)
  have hm2 := Int.emod_lt_of_pos m0 (show (0 : Int) < 5 by omega)
  generalize m0 % 5 = mn at hm1 hm2 ⊢
  go_wp2_with fail
  refine (restC b0 15 _ (by omega) (by omega)).mono ?_
  rintro e w' ⟨rfl, rfl⟩
  have hb1 := Int.emod_nonneg b0 (show (15 : Int) ≠ 0 by omega)
  have hb2 := Int.emod_lt_of_pos b0 (show (0 : Int) < 15 by omega)
  generalize b0 % 15 = back at hb1 hb2 ⊢
  go_wp2_with fail
  refine (restC a0 6 _ (by omega) (by omega)).mono ?_
  rintro e w' ⟨rfl, rfl⟩
  have ha1 := Int.emod_nonneg a0 (show (6 : Int) ≠ 0 by omega)
  have ha2 := Int.emod_lt_of_pos a0 (show (0 : Int) < 6 by omega)
  generalize a0 % 6 = after at ha1 ha2 ⊢
  go_wp2_with fail
  have HP4 : Hid (Tide.At (((W.setCell ⟨t9, 1, none⟩ (.int .i64 mn)).setCell ⟨t9, 6, none⟩ (.int .i64 back)).setCell ⟨t9, 7, none⟩ (.int .i64 after)) t9 26 (plnC (failP mn back after) (.slice (some ⟨b, 0, none⟩) 1 1))) := Lib.hid (((HP3.out.put 1 (.int .i64 mn)).put 6 (.int .i64 back)).put 7 (.int .i64 after))
  have HB4 := Lib.hid (((HB3.out.setCell (p := ⟨t9, 1, none⟩) HW2.out (.int .i64 mn)).setCell (p := ⟨t9, 6, none⟩) HW2.out (.int .i64 back)).setCell (p := ⟨t9, 7, none⟩) HW2.out (.int .i64 after))
  have HBt := Lib.hid (((HBw.out.setCell (p := ⟨t9, 1, none⟩) (Nat.le_refl _) (.int .i64 mn)).setCell (p := ⟨t9, 6, none⟩) (Nat.le_refl _) (.int .i64 back)).setCell (p := ⟨t9, 7, none⟩) (Nat.le_refl _) (.int .i64 after))
  refine (restC h0 12 _ (by omega) (by omega)).mono ?_
  rintro e w' ⟨rfl, rfl⟩
  have hh1 := Int.emod_nonneg h0 (show (12 : Int) ≠ 0 by omega)
  have hh2 := Int.emod_lt_of_pos h0 (show (0 : Int) < 12 by omega)
  generalize h0 % 12 = h at hh1 hh2 ⊢
  generalize ((W.setCell ⟨t9, 1, none⟩ (.int .i64 mn)).setCell ⟨t9, 6, none⟩ (.int .i64 back)).setCell ⟨t9, 7, none⟩ (.int .i64 after) = W4 at HP4 HB4 HBt ⊢
  clear c1 c6 c7 p1 p6 p7 HB3 HL3 HP3 HBw
  have HL4 := Lib.hid (HL.out.below HBt.out HWt.out)
  have bm := And.intro hm1 (show mn ≤ 4 by omega)
  have bb := And.intro hb1 (show back ≤ 14 by omega)
  have ba := And.intro ha1 (show after ≤ 5 by omega)
  have HPo := Lib.hid (failP_ok bm bb ba)
  have HFi := Lib.hid (show ∀ t ∈ (failP mn back after).trigs, t.fits from fun t ht => plainP_fits t ht)
  have HF0 := Lib.hid (failP_new bm bb ba HFi.out)
  have HBm := Lib.hid bm; have HBb := Lib.hid bb; have HBa := Lib.hid ba
  have hb3 : h ≤ 11 := by omega
  clear hm1 hm2 hb1 hb2 ha1 ha2 hh2 bm bb ba
  go_wp2_with (refine wpList_load_row rfl 26 (.tmp 9) rfl t9 rfl 26 _ (0, 0) _ HP4.out Try.underlying26 rfl (by kernel_rfl) ?_)
  refine (lopNewYes (failP mn back after) _ _ W4 HL4.out HFi.out (by show 1 ≤ _; omega) (by show 1 ≤ _; omega) HPo.out).mono ?_
  intro e w5 h5
  obtain ⟨g, rfl, hr5⟩ := runNew (Below.refl _ W4) h5
  have HR5 := Lib.hid (show FailAt W4 w5 g mn back after 0 from ⟨_, hr5, HF0.out⟩)
  clear h5 hr5 HL4 HF0 HFi HPo
  go_wp2_with fail
  go_loopw [38] (fun i wr => ∃ k : Nat, k ≤ 7 ∧ i = .int .i64 k ∧ Hid (FailAt W4 wr g mn back after k)) (fun i _ => 7 - (intOf i).toNat)
  case atStart => exact ⟨0, by omega, rfl, HR5⟩
  case round =>
    obtain ⟨k, hk, rfl, HK⟩ := hrel
    obtain ⟨l, hr, hi⟩ := HK.out
    by_cases hlt : k < 7
    · have HRa := Lib.hid (hr.alloc (.cells #[.bool true, .slice none 0 0] 40))
      have HD := Lib.hid (rds_fail (R := fun b => wr.heap.size ≤ b) (Tide.At.made wr 40 #[.bool true, .slice none 0 0]) (Nat.le_refl _))
      have HI := Lib.hid hi
      have HS := Lib.hid (fail_step (h := h) HBm.out HBb.out (by omega) hh1 hb3 hi)
      clear hr hi HK HR5
      have hk7 : (k : Int) < 7 := by omega
      go_wp2_with fail
      refine (runLook W4 wr.heap.size (fun b => wr.heap.size ≤ b) g _ l k 0 h _ false k _ HRa.out HD.out (fun b hb => .inr hb) HI.out.ok (by omega) (by show 1 ≤ _; omega)).mono ?_
      rintro e w7 ⟨he, hr7, _⟩
      obtain ⟨N, hN⟩ : ∃ N, lookN l k 0 h [⟨true, []⟩] false = N := ⟨_, rfl⟩
      obtain rfl := he.trans (two_ret hN HS.out.2.1)
      have HF7 : Hid (FInv (failP mn back after) (k + 1) (lookL l k 0 h [⟨true, []⟩] false)) := Lib.hid HS.out.2.2
      have HR7 : Hid (LopRun W4 w7.heap.size w7 g (lookL l k 0 h [⟨true, []⟩] false)) := Lib.hid hr7
      have hN2 := HS.out.1
      rw [hN] at hN2
      have HN2 := Lib.hid hN2
      clear hN2 hN he hr7 HS HI HRa HD
      generalize lookL l k 0 h [⟨true, []⟩] false = l7 at HF7 HR7
      have HFn := Lib.hid (show failsAt l7 0 = (k : Int) + 1 by rw [fails_now HF7.out]; omega)
      have HFc := Lib.hid (ret_failsR (i := 0) HR7.out HF7.out.ok)
      rw [HFn.out] at HFc
      have HNext := Lib.hid (show FailAt W4 w7 g mn back after (k + 1) from ⟨l7, HR7.out, HF7.out⟩)
      have hp7 := HP4.out.below HR7.out.out HP4.out.inside
      have c1 : w7.cell? ⟨t9, 1, none⟩ = some (.int .i64 mn) := hp7.here rfl
      have c2 : w7.cell? ⟨t9, 2, none⟩ = some (.int .i64 9) := hp7.here rfl
      have c6 : w7.cell? ⟨t9, 6, none⟩ = some (.int .i64 back) := hp7.here rfl
      have c7 : w7.cell? ⟨t9, 7, none⟩ = some (.int .i64 after) := hp7.here rfl
      clear hp7 HR7 HF7 HFn
      have hfb : ((k : Int) + 1 != (k : Int) + 1) = false := by simp
      as_aux_lemma =>
      have hbaa := HBa.out
      by_cases q1 : 0 < after
      · by_cases q2 : after ≤ (k : Int) + 1
        · have hN3 : N = min (max (max back mn) 1) 9 := by rw [HN2.out, if_pos ⟨q1, q2⟩]
          have hbm := HBm.out
          have hbb := HBb.out
          clear HN2
          by_cases o1 : back < mn
          · have o4 : mn ≤ 9 := by omega
            by_cases o2 : mn < 1
            · exfalso; omega
            · have o3 : 1 ≤ mn := by omega
              obtain rfl : N = mn := by omega
              clear hN3
              go_wp2_with fail
              refine HFc.out.mono ?_
              rintro e w' ⟨rfl, rfl⟩
              go_wp2_with fail
              go_roundw
              case rel => exact ⟨k + 1, by omega, by go_num, HNext⟩
              case measure => simp [intOf]; omega
          · have o5 : mn ≤ back := by omega
            by_cases o2 : back < 1
            · obtain rfl : N = 1 := by omega
              clear hN3
              go_wp2_with fail
              refine HFc.out.mono ?_
              rintro e w' ⟨rfl, rfl⟩
              go_wp2_with fail
              go_roundw
              case rel => exact ⟨k + 1, by omega, by go_num, HNext⟩
              case measure => simp [intOf]; omega
            · have o6 : 1 ≤ back := by omega
              by_cases o3 : 9 < back
              · obtain rfl : N = 9 := by omega
                clear hN3
                go_wp2_with fail
                refine HFc.out.mono ?_
                rintro e w' ⟨rfl, rfl⟩
                go_wp2_with fail
                go_roundw
                case rel => exact ⟨k + 1, by omega, by go_num, HNext⟩
                case measure => simp [intOf]; omega
              · have o7 : back ≤ 9 := by omega
                obtain rfl : N = back := by omega
                clear hN3
                go_wp2_with fail
                refine HFc.out.mono ?_
                rintro e w' ⟨rfl, rfl⟩
                go_wp2_with fail
                go_roundw
                case rel => exact ⟨k + 1, by omega, by go_num, HNext⟩
                case measure => simp [intOf]; omega
        · have q3 : (k : Int) + 1 < after := by omega
          have hN3 : N = min (max (max h mn) 1) 9 := by rw [HN2.out, if_neg (fun q => q2 q.2)]
          have hbm := HBm.out
          have hbb := HBb.out
          clear HN2
          by_cases o1 : h < mn
          · have o4 : mn ≤ 9 := by omega
            by_cases o2 : mn < 1
            · exfalso; omega
            · have o3 : 1 ≤ mn := by omega
              obtain rfl : N = mn := by omega
              clear hN3
              go_wp2_with fail
              refine HFc.out.mono ?_
              rintro e w' ⟨rfl, rfl⟩
              go_wp2_with fail
              go_roundw
              case rel => exact ⟨k + 1, by omega, by go_num, HNext⟩
              case measure => simp [intOf]; omega
          · have o5 : mn ≤ h := by omega
            by_cases o2 : h < 1
            · obtain rfl : N = 1 := by omega
              clear hN3
              go_wp2_with fail
              refine HFc.out.mono ?_
              rintro e w' ⟨rfl, rfl⟩
              go_wp2_with fail
              go_roundw
              case rel => exact ⟨k + 1, by omega, by go_num, HNext⟩
              case measure => simp [intOf]; omega
            · have o6 : 1 ≤ h := by omega
              by_cases o3 : 9 < h
              · obtain rfl : N = 9 := by omega
                clear hN3
                go_wp2_with fail
                refine HFc.out.mono ?_
                rintro e w' ⟨rfl, rfl⟩
                go_wp2_with fail
                go_roundw
                case rel => exact ⟨k + 1, by omega, by go_num, HNext⟩
                case measure => simp [intOf]; omega
              · have o7 : h ≤ 9 := by omega
                obtain rfl : N = h := by omega
                clear hN3
                go_wp2_with fail
                refine HFc.out.mono ?_
                rintro e w' ⟨rfl, rfl⟩
                go_wp2_with fail
                go_roundw
                case rel => exact ⟨k + 1, by omega, by go_num, HNext⟩
                case measure => simp [intOf]; omega
      · have q4 : decide (0 < after) = false := decide_eq_false q1
        have q5 : after ≤ 0 := by omega
        have hN3 : N = min (max (max h mn) 1) 9 := by rw [HN2.out, if_neg (fun q => q1 q.1)]
        have hbm := HBm.out
        have hbb := HBb.out
        clear HN2
        by_cases o1 : h < mn
        · have o4 : mn ≤ 9 := by omega
          by_cases o2 : mn < 1
          · exfalso; omega
          · have o3 : 1 ≤ mn := by omega
            obtain rfl : N = mn := by omega
            clear hN3
            go_wp2_with fail
            refine HFc.out.mono ?_
            rintro e w' ⟨rfl, rfl⟩
            go_wp2_with fail
            go_roundw
            case rel => exact ⟨k + 1, by omega, by go_num, HNext⟩
            case measure => simp [intOf]; omega
        · have o5 : mn ≤ h := by omega
          by_cases o2 : h < 1
          · obtain rfl : N = 1 := by omega
            clear hN3
            go_wp2_with fail
            refine HFc.out.mono ?_
            rintro e w' ⟨rfl, rfl⟩
            go_wp2_with fail
            go_roundw
            case rel => exact ⟨k + 1, by omega, by go_num, HNext⟩
            case measure => simp [intOf]; omega
          · have o6 : 1 ≤ h := by omega
            by_cases o3 : 9 < h
            · obtain rfl : N = 9 := by omega
              clear hN3
              go_wp2_with fail
              refine HFc.out.mono ?_
              rintro e w' ⟨rfl, rfl⟩
              go_wp2_with fail
              go_roundw
              case rel => exact ⟨k + 1, by omega, by go_num, HNext⟩
              case measure => simp [intOf]; omega
            · have o7 : h ≤ 9 := by omega
              obtain rfl : N = h := by omega
              clear hN3
              go_wp2_with fail
              refine HFc.out.mono ?_
              rintro e w' ⟨rfl, rfl⟩
              go_wp2_with fail
              go_roundw
              case rel => exact ⟨k + 1, by omega, by go_num, HNext⟩
              case measure => simp [intOf]; omega
    · have hk7 : k = 7 := by omega
      subst hk7
      have HR := Lib.hid hr; have HI := Lib.hid hi
      clear hr hi HK HR5
      go_wp2_with fail
      refine (depthC 0 _).mono ?_
      rintro e v ⟨rfl, hd, hb⟩
      have HRa := Lib.hid (HR.out.below hb); have HD := Lib.hid hd
      clear hb hd HR
      go_wp2_with fail
      refine (runLook W4 wr.heap.size (fun b => wr.heap.size ≤ b) g _ l 9 0 h _ false 7 _ HRa.out HD.out (fun b hb => .inr hb) HI.out.ok (by omega) (by show 1 ≤ _; omega)).mono ?_
      rintro e u ⟨rfl, hr2, _⟩
      have HR2 : Hid (LopRun W4 u.heap.size u g (lookL l 9 0 h [⟨false, [0]⟩] false)) := Lib.hid hr2
      have HFc := Lib.hid (ret_failsR (i := 0) HR2.out (look_ok HI.out.ok))
      rw [fail_last hh1 hb3 HI.out] at HFc
      have HBe := Lib.hid (HB4.out.trans (HR2.out.out.mono HB4.out.size))
      clear hr2 HRa HD HI HR2
      go_wp2_with fail
      refine HFc.out.mono ?_
      rintro e w' ⟨rfl, rfl⟩
      go_wp2_with fail
      go_ret
      exact ⟨rfl, HBe.out⟩
end Go.Proofs.Ytcnoapogeohmkaa
