/- The contract of the reference's Cron: what is wrong with one. -/
import Derived.Test.YthelnkoohbnjpaaDoorSekC
set_option linter.unusedVariables false
set_option linter.unusedSimpArgs false
namespace Go.Proofs.YthelnkoohbnjpaaDoor
open Go.RowKit
set_option linter.unusedVariables false
set_option maxRecDepth 100000 in
set_option maxHeartbeats 20000000 in
theorem refCron (c : Cr) (hf : c.fits) (w : World) : Calls Tryd.prog 11 #[.agg c.cells] w fun e w' => e = .returned (.int .i64 c.err) ∧ Below w.heap.size w w' := by
  have HB := Lib.hid ((Below.refl w.heap.size w).alloc (Nat.le_refl _) (.cells c.cells 24))
  have HX := Lib.hid (Tide.At.made w 24 c.cells)
  have HS := Lib.hid (fun (W : World) => refSets c W)
  have HF := Lib.hid hf
  clear hf
  obtain ⟨C, hC⟩ : ∃ C, Hid (c.cells = C) := ⟨_, Lib.hid rfl⟩
  have hCl : ∃ v0 v1 v2 v3 v4 v5 v6, C = #[v0, v1, v2, v3, v4, v5, v6] := ⟨_, _, _, _, _, _, _, hC.out.symm⟩
  rw [hC.out] at HB HX HS ⊢
  obtain ⟨v0, v1, v2, v3, v4, v5, v6, rfl⟩ := hCl
  go_enter Tryd.func11, Tryd.ntmps11
  go_wp2_with fail
  refine (HS.out _).mono ?_
  rintro e w1 ⟨a, b, d, rfl, ha, hb, hd, hw⟩
  have HB1 := Lib.hid (HB.out.trans (hw.mono HB.out.size))
  have HA := Lib.hid ha; have HL := Lib.hid hb; have HD := Lib.hid hd
  clear ha hb hd hw HS HX HB hC
  go_wp2_with fail
  go_loopw [6] (fun i wr => ∃ j : Nat, j ≤ 5 ∧ i = .int .i64 j ∧ Hid (∀ k, k < j → c.okAt k = true) ∧ Hid (Below w1.heap.size w1 wr)) (fun i _ => 5 - (intOf i).toNat)
  case atStart => exact ⟨0, by omega, rfl, Lib.hid (fun k hk => by omega), Lib.hid (Below.refl _ _)⟩
  case round =>
    obtain ⟨j, hj, rfl, HO, HBr⟩ := hrel
    by_cases hlt : j < 5
    · obtain ⟨s, lo, hi, any, l0, l1, l2, heq, q0, q1, q2, q3⟩ := sets_row HF.out (HA.out.below HBr.out HA.out.inside) (HL.out.below HBr.out HL.out.inside) (HD.out.below HBr.out HD.out.inside) j hlt
      have hj0 : (0 : Int) ≤ (j : Int) := by omega
      have hj1 : (j : Int) < 5 := by omega
      have HE := Lib.hid heq; have HW : Hid (Word s) := Lib.hid l2
      have HBad := Lib.hid (fun (n : Nat) (hb : s.testBit n = true) (hn : (decide (lo ≤ n) && decide (n ≤ hi)) = false) => Cr.err_no (Cr.not_ok j hlt (heq.trans (Tide.field_bad l2 l0 (by omega) (any := any) hb hn))))
      have HIs := Lib.hid (fun hno => Tide.field_is (s := s) l2 l0 (show hi ≤ 62 by omega) (any := any) hno)
      have Q0 := Lib.hid q0; have Q1 := Lib.hid q1; have Q2 := Lib.hid q2; have Q3 := Lib.hid q3
      clear heq l0 l1 l2 q0 q1 q2 q3
      have IA := Lib.hid (Nat.lt_of_lt_of_le HA.out.inside HBr.out.size)
      have IL := Lib.hid (Nat.lt_of_lt_of_le HL.out.inside HBr.out.size)
      have ID := Lib.hid (Nat.lt_of_lt_of_le HD.out.inside HBr.out.size)
      rename World => W0
      go_wp2_with fail
      go_loopw [7, 8, 9] (fun x y n wr => ∃ k : Nat, k ≤ 64 ∧ n = .int .i64 k ∧ x = .bool (Tide.someU s k) ∧ y = .bool (Tide.allU s lo hi k) ∧ Hid (∀ q, q < k → s.testBit q = true → (decide (lo ≤ q) && decide (q ≤ hi)) = true) ∧ Hid (Below W0.heap.size W0 wr)) (fun _ _ n _ => 64 - (intOf n).toNat)
      case atStart => exact ⟨0, by omega, rfl, rfl, rfl, Lib.hid (fun q hq => by omega), Lib.hid (Below.refl _ _)⟩
      case round =>
        obtain ⟨k, hk, rfl, rfl, rfl, HNo, HBq⟩ := hrel
        have q0 := (HBq.out.cell (p := ⟨a, j, none⟩) IA.out).trans Q0.out
        have q1 := (HBq.out.cell (p := ⟨b, j * 2, none⟩) IL.out).trans Q1.out
        have q2 := (HBq.out.cell (p := ⟨b, j * 2 + 1, none⟩) IL.out).trans Q2.out
        have q3 := (HBq.out.cell (p := ⟨d, j, none⟩) ID.out).trans Q3.out
        by_cases hk2 : k < 64
        · obtain ⟨tb, htb⟩ : ∃ tb, s.testBit k = tb := ⟨_, rfl⟩
          obtain ⟨ib, hib⟩ : ∃ ib, (decide (lo ≤ k) && decide (k ≤ hi)) = ib := ⟨_, rfl⟩
          obtain ⟨sv, hsv⟩ : ∃ sv, Tide.someU s k = sv := ⟨_, rfl⟩
          obtain ⟨av, hav⟩ : ∃ av, Tide.allU s lo hi k = av := ⟨_, rfl⟩
          have HIn := Lib.hid (show ∀ (W : World), Calls Tryd.prog 32 #[.int .i64 (k : Int), .int .i64 (lo : Int), .int .i64 (hi : Int)] W fun e w' => e = .returned (.bool ib) ∧ w' = W from fun W => by rw [← hib, ← inB_nat]; exact refIn' _ _ _ _)
          have HHas := Lib.hid (show ∀ (W : World), Calls Tryd.prog 33 #[.int .u64 (s : Int), .int .i64 (k : Int)] W fun e w' => e = .returned (.bool tb) ∧ W = w' from fun W => by rw [← htb, ← hasB_nat s k hk2]; exact refHas s k W HW.out)
          have HS1 := Lib.hid (show Tide.someU s (k + 1) = (sv || tb) by rw [← hsv, ← htb]; rfl)
          have HA1 := Lib.hid (show Tide.allU s lo hi (k + 1) = (av && (tb || !ib)) by rw [← hav, ← htb, ← hib]; rfl)
          have HB2 := Lib.hid (fun (h1 : tb = true) (h2 : ib = false) => HBad.out k (htb.trans h1) (hib.trans h2))
          have HN2 := Lib.hid (fun (h : tb = true → ib = true) => (show ∀ q, q < k + 1 → s.testBit q = true → (decide (lo ≤ q) && decide (q ≤ hi)) = true from fun q hq hb => by
            rcases Nat.lt_succ_iff_lt_or_eq.1 hq with c | c
            · exact HNo.out q c hb
            · subst c; rw [htb] at hb; rw [hib]; exact h hb))
          rw [hsv, hav]
          have k0 : (0 : Int) ≤ (k : Int) := by omega
          have k1 : (k : Int) < 64 := by omega
          have HK := Lib.hid hk2
          clear htb hib hsv hav hk hk2 hj hlt
          go_wp2_with fail
          go_quiet ((go_at_call 32; exact Calls.quiet_of_same (HIn.out _)))
          go_wp2_with fail
          refine (HHas.out _).mono ?_
          rintro e w2 ⟨rfl, rfl⟩
          have HBd := Lib.hid (fun n => below_drewN HBq.out n)
          cases tb
          case true =>
            cases ib
            case false =>
              have HFin := Lib.hid (HB2.out rfl rfl)
              go_wp2_with fail
              go_ret
              exact ⟨ret_int HFin.out.symm, HB1.out.trans ((HBr.out.trans ((HBd.out _).mono HBr.out.size)).mono HB1.out.size)⟩
            case true =>
              have HNn := Lib.hid (HN2.out (fun _ => rfl))
              cases sv <;> cases av
              all_goals
                go_wp2_with (first | (go_at_call 33; refine (HHas.out _).mono ?_; rintro e w2 ⟨rfl, rfl⟩))
                go_roundw
                case rel => exact ⟨k + 1, by have := HK.out; omega, by go_num, by rw [HS1.out] <;> rfl, by rw [HA1.out] <;> rfl, HNn, Lib.hid (HBd.out _)⟩
                case measure => have := HK.out; simp [intOf]; omega
          case false =>
            have HNn := Lib.hid (HN2.out (fun h => by cases h))
            cases ib <;> cases sv <;> cases av
            all_goals
              go_wp2_with (first | (go_at_call 33; refine (HHas.out _).mono ?_; rintro e w2 ⟨rfl, rfl⟩))
              go_roundw
              case rel => exact ⟨k + 1, by have := HK.out; omega, by go_num, by rw [HS1.out] <;> rfl, by rw [HA1.out] <;> rfl, HNn, Lib.hid (HBd.out _)⟩
              case measure => have := HK.out; simp [intOf]; omega
        · have hk3 : k = 64 := by omega
          subst hk3
          have HV := Lib.hid (HE.out.trans (HIs.out HNo.out))
          have HBd := Lib.hid (HBr.out.trans (HBq.out.mono HBr.out.size))
          have HYes := Lib.hid (fun (h : c.okAt j = true) => (show ∀ k, k < j + 1 → c.okAt k = true from fun k hk => by
            rcases Nat.lt_succ_iff_lt_or_eq.1 hk with e | e
            · exact HO.out k e
            · rw [e]; exact h))
          have HNot := Lib.hid (fun (h : c.okAt j = false) => Cr.err_no (Cr.not_ok j hlt h))
          generalize Tide.someU s 64 = sv at HV ⊢
          generalize Tide.allU s lo hi 64 = av at HV ⊢
          have HJ := Lib.hid hlt
          clear hk hk2 hj hlt
          cases sv
          case false =>
            have HFin := Lib.hid (HNot.out (HV.out.trans rfl))
            go_wp2_with fail
            go_ret
            exact ⟨ret_int HFin.out.symm, HB1.out.trans (HBd.out.mono HB1.out.size)⟩
          case true =>
            cases any
            case false =>
              have HFin := Lib.hid (HYes.out (HV.out.trans rfl))
              go_wp2_with fail
              go_roundw
              case rel => exact ⟨j + 1, by have := HJ.out; omega, by go_num, HFin, HBd⟩
              case measure => have := HJ.out; simp [intOf]; omega
            case true =>
              cases av
              case false =>
                have HFin := Lib.hid (HNot.out (HV.out.trans rfl))
                go_wp2_with fail
                go_ret
                exact ⟨ret_int HFin.out.symm, HB1.out.trans (HBd.out.mono HB1.out.size)⟩
              case true =>
                have HFin := Lib.hid (HYes.out (HV.out.trans rfl))
                go_wp2_with fail
                go_roundw
                case rel => exact ⟨j + 1, by have := HJ.out; omega, by go_num, HFin, HBd⟩
                case measure => have := HJ.out; simp [intOf]; omega
    · have hj5 : j = 5 := by omega
      subst hj5
      have HFin := Lib.hid (Cr.err_yes (Cr.ok_of HO.out))
      clear hj hlt
      go_wp2_with fail
      go_ret
      exact ⟨ret_int HFin.out.symm, HB1.out.trans (HBr.out.mono HB1.out.size)⟩
end Go.Proofs.YthelnkoohbnjpaaDoor
