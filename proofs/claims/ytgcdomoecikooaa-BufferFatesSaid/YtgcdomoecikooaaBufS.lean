/- The walk of fates. -/
import Derived.Test.YtgcdomoecikooaaBufR
import Derived.Test.YtgcdomoecikooaaBufL
import Derived.Test.YtgcdomoecikooaaMaps
import Derived.Maps.Keyed
import Derived.Deep.LoopGhost
import Derived.Deep.DeepCutAuto
namespace Go.Proofs.Ytgcdomoecikooaa
open Go.RowKit Go.Maps Tide
set_option linter.unusedVariables false
theorem fates_key : Keyed Try.prog 3 := int_keyed Try.underlying3
theorem fates_zero (w : World) : (zeroValue 3).run Try.prog w = .ok (.int .i64 0) w := by kernel_rfl
theorem req_row2 {S : Nat → Prop} {w : World} {v : Value} {l : List Tide.Req} (h : Tide.OwnRow S w 42 5 v l.length (l.flatMap Tide.Req.enc)) {A : Option Addr} {n cap : Nat} (e : v = .slice A n cap) {k : Nat} {r : Tide.Req} (hk : l[k]? = some r) :
    ∃ b, A = some ⟨b, 0, none⟩ ∧ w.cell? ⟨b, k * 5, none⟩ = some (.int .i64 r.id) ∧ w.cell? ⟨b, k * 5 + 1, none⟩ = some (.int .i64 r.source) ∧ w.cell? ⟨b, k * 5 + 2, none⟩ = some (.int .i64 r.till) ∧
      w.cell? ⟨b, k * 5 + 3, none⟩ = some (.int .i64 r.fate) ∧ w.cell? ⟨b, k * 5 + 4, none⟩ = some (.int .i64 r.pod) := by
  obtain ⟨b, cap', e', h2⟩ := req_row h hk
  rw [e] at e'; cases e'
  exact ⟨b, rfl, h2⟩
theorem below_drewN {B : Nat} {w w' : World} (h : Below B w w') (n : Nat) : Below B w (w'.drewN n) := ⟨h.os, h.tape, h.output, h.size, h.block⟩
set_option maxRecDepth 100000 in
set_option maxHeartbeats 12800000 in
theorem fates_true (S1 S2 : Nat → Prop) (u v : Value) (was now : List Tide.Req) (w : World) (hu : Tide.OwnRow S1 w 42 5 u was.length (was.flatMap Tide.Req.enc)) (hv : Tide.OwnRow S2 w 42 5 v now.length (now.flatMap Tide.Req.enc))
    (hs : now.length ≤ 200) (hf : Tide.Fair now) (hst : Tide.Steps was now) :
    Calls Try.prog 17 #[u, v] w (ReadPost w (.bool true)) := by
  obtain ⟨A1, cap1, rfl, k1, k2, _⟩ := hu.slice
  obtain ⟨A2, cap2, rfl, k3, k4, _⟩ := hv.slice
  have HU := Lib.hid hu; have HV := Lib.hid hv; have HF := Lib.hid hf; have HStep := Lib.hid hst
  have hc2 : (now.length : Int) ≤ (cap2 : Int) := by omega
  have hm2 : (cap2 : Int) ≤ 9223372036854775807 := by simp only [maxLen] at k4; omega
  have hmm := @run_makeMap Try.prog
  clear hu hv hf hst k1 k2 k4
  go_enter Try.func17, Try.ntmps17
  go_wp2_with fail
  clear hmm
  obtain ⟨B, hB⟩ : ∃ B, Hid (w.heap.size = B) := ⟨_, Lib.hid rfl⟩
  have HM0 := Lib.hid (Tide.CntMap.made Try.prog 3 3 w)
  rw [hB.out] at HM0
  have HB0 := Lib.hid ((Below.refl w.heap.size w).alloc (Nat.le_refl _) (.map #[] 0))
  rw [hB.out]
  go_loopw [15] (fun i wr => ∃ k : Nat, k ≤ now.length ∧ i = .int .i64 k ∧ Hid (Tide.CntMap Try.prog 3 3 wr B k (Tide.runsOf now k)) ∧ Hid (Below w.heap.size w wr)) (fun i _ => now.length - (intOf i).toNat)
  case atStart => exact ⟨0, by omega, rfl, Lib.hid (HM0.out.as (Tide.runsOf_zero now).symm), HB0⟩
  case round =>
    clear HM0 HB0
    obtain ⟨k, hk, rfl, HM, HB⟩ := hrel
    by_cases hlt : k < now.length
    · obtain ⟨r, hr⟩ := Tide.get_some now hlt
      obtain ⟨b, rfl, c0, c1, c2, c3, c4⟩ := req_row2 (HV.out.below HB.out (Nat.le_refl _)) rfl hr
      have i0 : (0 : Int) ≤ (k : Int) := by omega
      have i1 : (k : Int) < (now.length : Int) := by omega
      have i2 : (k : Int) ≤ (cap2 : Int) := by omega
      have HR := Lib.hid hr
      have hsrc := Lib.hid (HF.out.num k r hr).2
      have hwf := Lib.hid (show (Lit.int .i64 r.source).wf = true from WalkArith.wf_i64 (by have := hsrc.out; omega))
      have hle := Tide.runsOf_le HF.out k hsrc.out.1
      have hle1 := Tide.runsOf_le HF.out (k + 1) hsrc.out.1
      have HBx := Lib.hid (Tide.At.made wr 42 #[.int .i64 r.id, .int .i64 r.source, .int .i64 r.till, .int .i64 r.fate, .int .i64 r.pod])
      have hBlt := Lib.hid HM.out.lt
      have HM1 := Lib.hid (HM.out.chg (S := fun _ => False) ((Tide.Chg.refl _ wr).alloc (.cells #[.int .i64 r.id, .int .i64 r.source, .int .i64 r.till, .int .i64 r.fate, .int .i64 r.pod] 42)) (fun h => h))
      have HB1 := Lib.hid (HB.out.alloc HB.out.size (.cells #[.int .i64 r.id, .int .i64 r.source, .int .i64 r.till, .int .i64 r.fate, .int .i64 r.pod] 42))
      have hBw := Lib.hid (show B < wr.heap.size from hBlt.out)
      clear hr HM HB
      cases hf : (r.fate == 2)
      · have HM := Lib.hid ((HM1.out.as (Tide.runsOf_no HR.out hf)).mono (Nat.le_succ k))
        have HX := HBx
        have HBz := HB1
        clear HM1 HBx HB1 hle
        go_upto_region 13 with fail
        generalize wr.alloc (.cells #[.int .i64 r.id, .int .i64 r.source, .int .i64 r.till, .int .i64 r.fate, .int .i64 r.pod] 42) = wz at HM HX HBz ⊢
        by_cases hkw : k < was.length
        · obtain ⟨a, ha⟩ := Tide.get_some was hkw
          obtain ⟨r', hr', hst⟩ := HStep.out.2 k a ha
          obtain rfl : r' = r := by rw [HR.out] at hr'; cases hr'; rfl
          obtain ⟨b1, rfl, d0, d1, d2, d3, d4⟩ := req_row2 (HU.out.below HBz.out (Nat.le_refl _)) rfl ha
          obtain ⟨e1, e2, e3⟩ := hst
          rw [← e1] at d1
          rw [← e2] at d2
          have x1 := HX.out.here (i := 1) rfl; have x2 := HX.out.here (i := 2) rfl; have x3 := HX.out.here (i := 3) rfl
          have i3 : (k : Int) < (was.length : Int) := by omega
          clear ha hr' e1 e2 d0 d4 hf
          rcases e3 with e | ⟨f1, f2⟩ | ⟨f1, f2⟩ | ⟨f1, f2⟩ | ⟨f1, f2⟩
          case' inl => rw [e] at d3; clear e
          case' inr.inl => rw [f1] at d3; clear f1
          case' inr.inr.inl => rw [f1] at d3; clear f1
          case' inr.inr.inr.inl => rw [f1] at d3; clear f1
          case' inr.inr.inr.inr => rw [f1] at d3; clear f1
          all_goals
            go_wp2_with (at_lookup; refine wpList_look_cnt rfl _ _ 82 rfl fates_key Try.underlying82 Try.underlying3 Try.underlying3 (fates_zero _) HM.out rfl r'.source rfl hwf.out ?_)
            go_quiet (fail)
            go_wp2_with fail
            go_roundw
            case rel => exact ⟨k + 1, by omega, by go_num, Lib.hid (HM.out.chg ((Tide.Chg.refl (fun _ => False) _).drewN _) (fun h => h)), Lib.hid (below_drewN HBz.out _)⟩
            case measure => simp [intOf]; omega
        · have i3 : (was.length : Int) ≤ (k : Int) := by omega
          have x1 := HX.out.here (i := 1) rfl
          clear hf
          go_wp2_with (at_lookup; refine wpList_look_cnt rfl _ _ 82 rfl fates_key Try.underlying82 Try.underlying3 Try.underlying3 (fates_zero _) HM.out rfl r.source rfl hwf.out ?_)
          go_roundw
          case rel => exact ⟨k + 1, by omega, by go_num, HM, HBz⟩
          case measure => simp [intOf]; omega
      · have HE := Lib.hid (Tide.runsOf_yes HR.out hf)
        have hfe : r.fate = 2 := by simpa using hf
        have HNo := Lib.hid (HF.out.first k r HR.out hfe)
        clear hfe
        go_wp2_with (first | (at_lookup; refine wpList_look_cnt rfl _ _ 82 rfl fates_key Try.underlying82 Try.underlying3 Try.underlying3 (fates_zero _) HM1.out rfl r.source rfl hwf.out ?_) | (at_mapUpdate; refine wpList_store_cnt rfl _ _ _ 82 rfl fates_key Try.underlying82 Try.underlying3 Try.underlying3 HM1.out (by unfold maxLen; omega) rfl r.source (Tide.runsOf now k r.source + 1) rfl rfl hwf.out (WalkArith.wf_i64 (by omega)) ?_; intro w1 hcm hch))
        rw [HE.out] at hcm
        have HCM := Lib.hid hcm
        have HX1 := Lib.hid (HBx.out.chg hch (fun e => by have := hBw.out; omega))
        have HB2 := Lib.hid (HB1.out.trans (hch.below HB1.out.size (fun j hj e => by have := hB.out; omega)))
        clear hcm hch HBx HB1 HM1 hle
        obtain ⟨wo, rfl⟩ : ∃ wo : World, wo = wr := ⟨_, rfl⟩
        go_loopw [32] (fun i wi => ∃ m : Nat, m ≤ k ∧ i = .int .i64 m ∧ Hid (Tide.Chg (fun _ => False) w1 wi)) (fun i _ => k - (intOf i).toNat)
        case atStart => exact ⟨0, by omega, rfl, Lib.hid (Tide.Chg.refl _ _)⟩
        case round =>
          obtain ⟨m, hm, rfl, hci⟩ := hrel
          have HBz := Lib.hid (HB2.out.trans (hci.out.below HB2.out.size (fun j hj h => h)))
          have HX := Lib.hid (HX1.out.chg hci.out (fun h => h))
          have HM := Lib.hid (HCM.out.chg hci.out (fun h => h))
          by_cases hmk : m < k
          · obtain ⟨q, hq⟩ := Tide.get_some now (show m < now.length by omega)
            obtain ⟨b', e, d0, d1, d2, d3, d4⟩ := req_row2 (HV.out.below HBz.out (Nat.le_refl _)) rfl hq
            cases e
            have x1 := HX.out.here (i := 1) rfl
            have j0 : (0 : Int) ≤ (m : Int) := by omega
            have j1 : (m : Int) < (k : Int) := by omega
            have hlti : wo.heap.size < wr.heap.size := HX.out.inside
            have hw := HNo.out m q hmk hq
            have HCi := Lib.hid (hci.out.alloc (.cells #[.int .i64 q.id, .int .i64 q.source, .int .i64 q.till, .int .i64 q.fate, .int .i64 q.pod] 42))
            clear hq hf
            cases hs1 : (q.source == r.source)
            · clear hw
              go_wp2_with fail
              go_roundw
              case rel => exact ⟨m + 1, by omega, by go_num, HCi⟩
              case measure => simp [intOf]; omega
            · have hs2 : (q.fate == 1) = false := by unfold Tide.waitsOf at hw; rw [hs1] at hw; simpa using hw
              clear hw
              go_wp2_with fail
              go_roundw
              case rel => exact ⟨m + 1, by omega, by go_num, HCi⟩
              case measure => simp [intOf]; omega
          · obtain rfl : k = m := by omega
            clear hmk hm
            go_upto_region 13 with fail
            by_cases hkw : k < was.length
            · obtain ⟨a, ha⟩ := Tide.get_some was hkw
              obtain ⟨r', hr', hst⟩ := HStep.out.2 k a ha
              obtain rfl : r' = r := by rw [HR.out] at hr'; cases hr'; rfl
              obtain ⟨b1, rfl, d0, d1, d2, d3, d4⟩ := req_row2 (HU.out.below HBz.out (Nat.le_refl _)) rfl ha
              obtain ⟨e1, e2, e3⟩ := hst
              rw [← e1] at d1
              rw [← e2] at d2
              have x1 := HX.out.here (i := 1) rfl; have x2 := HX.out.here (i := 2) rfl; have x3 := HX.out.here (i := 3) rfl
              have i3 : (k : Int) < (was.length : Int) := by omega
              clear ha hr' e1 e2 d0 d4 hf
              rcases e3 with e | ⟨f1, f2⟩ | ⟨f1, f2⟩ | ⟨f1, f2⟩ | ⟨f1, f2⟩
              case' inl => rw [e] at d3; clear e
              case' inr.inl => rw [f1] at d3; clear f1
              case' inr.inr.inl => rw [f1] at d3; clear f1
              case' inr.inr.inr.inl => rw [f1] at d3; clear f1
              case' inr.inr.inr.inr => rw [f1] at d3; clear f1
              all_goals
                go_wp2_with (at_lookup; refine wpList_look_cnt rfl _ _ 82 rfl fates_key Try.underlying82 Try.underlying3 Try.underlying3 (fates_zero _) HM.out rfl r'.source rfl hwf.out ?_)
                go_quiet (fail)
                go_wp2_with fail
                go_roundw
                case rel => exact ⟨k + 1, by omega, by go_num, Lib.hid (HM.out.chg ((Tide.Chg.refl (fun _ => False) _).drewN _) (fun h => h)), Lib.hid (below_drewN HBz.out _)⟩
                case measure => simp [intOf]; omega
            · have i3 : (was.length : Int) ≤ (k : Int) := by omega
              have x1 := HX.out.here (i := 1) rfl
              clear hf
              go_wp2_with (at_lookup; refine wpList_look_cnt rfl _ _ 82 rfl fates_key Try.underlying82 Try.underlying3 Try.underlying3 (fates_zero _) HM.out rfl r.source rfl hwf.out ?_)
              go_roundw
              case rel => exact ⟨k + 1, by omega, by go_num, HM, HBz⟩
              case measure => simp [intOf]; omega
    · have HFin := HB
      clear HM HB
      go_wp2_with fail
      go_ret
      exact ⟨rfl, HFin.out⟩
end Go.Proofs.Ytgcdomoecikooaa
