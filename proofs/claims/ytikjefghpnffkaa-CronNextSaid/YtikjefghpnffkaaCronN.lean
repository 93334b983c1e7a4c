/- The walk of CronNext. -/
import Derived.Test.YtikjefghpnffkaaCronY
import Derived.Test.YtikjefghpnffkaaCronP
import Derived.Test.YtikjefghpnffkaaCronO
namespace Go.Proofs.Ytikjefghpnffkaa
open Go.RowKit
set_option linter.unusedVariables false
set_option maxRecDepth 1000000 in
theorem next_facts : (dailyCr 6 30).seekN 0 0 1 = 23400 ∧ (dailyCr 6 30).seekB 0 0 1 = true ∧ (dailyCr 6 30).seekE 0 0 = 0 := by decide +kernel
/-- what is found, found back -/
theorem Cr.next_back {c : Cr} {sec shift n : Int} (hok : c.ok = true) (ht : okTime sec shift) (h : c.seekO sec shift 1 = some n) :
    okTime n shift ∧ c.match (Tide.moOf ((n + 60 * shift) / 86400)) (Tide.dyOf ((n + 60 * shift) / 86400)) ((n + 60 * shift) % 86400 / 3600) ((n + 60 * shift) % 86400 / 60 % 60) (((n + 60 * shift) / 86400 + 4) % 7) = true ∧
    sec < n ∧ (n + 60 * shift) % 86400 % 60 = 0 ∧ c.seekE (n - 1) shift = 0 ∧ (c.seekB (n - 1) shift (-1) = true → c.seekN (n - 1) shift (-1) ≤ sec) ∧ c.seekE n shift = 0 ∧ c.seekB n shift (-1) = true ∧ c.seekN n shift (-1) = n := by
  obtain ⟨t0, t1, t2, t3⟩ := ht
  obtain ⟨h1, h2, h3, h4, h5⟩ := Cr.up_some ⟨t0, t1, t2, t3⟩ h
  have k1 : okTime n shift := ⟨by omega, by omega, t2, t3⟩
  have k2 : okTime (n - 1) shift := ⟨by omega, by omega, t2, t3⟩
  have k3 : c.seekO n shift (-1) = some n := Cr.dn_is k1 (Int.le_refl _) (by omega) (by unfold dayStart; omega) h3 (fun x x0 x1 => by omega)
  have h3' := h3
  unfold Cr.onT at h3'
  simp only [Bool.and_eq_true, decide_eq_true_eq] at h3'
  refine ⟨k1, ?_, h1, by omega, by unfold Cr.seekE; rw [if_pos hok, if_pos k2], ?_, by unfold Cr.seekE; rw [if_pos hok, if_pos k1], by unfold Cr.seekB; rw [if_pos ⟨hok, k1⟩, k3]; rfl, by unfold Cr.seekN; rw [if_pos ⟨hok, k1⟩, k3]; rfl⟩
  · have e1 := h3'.1.2
    have e2 := h3'.2
    unfold Cr.dayN at e1
    unfold Cr.clock at e2
    unfold Cr.match Cr.fit
    rw [hok, e1, Bool.true_and, Bool.true_and, e2]
  · intro hb
    unfold Cr.seekB at hb
    unfold Cr.seekN
    rw [if_pos ⟨hok, k2⟩] at hb ⊢
    cases hq : c.seekO (n - 1) shift (-1) with
    | none => rw [hq] at hb; cases hb
    | some m =>
      obtain ⟨a1, a2, a3, a4, a5⟩ := Cr.dn_some k2 hq
      show m ≤ sec
      rcases Int.lt_or_le sec m with q | q
      · rw [h4 m q (by omega)] at a3; cases a3
      · exact q
theorem Cr.next_no {c : Cr} {sec shift side : Int} (h : c.seekE sec shift ≠ 0 ∨ c.seekB sec shift side = false) : c.seekN sec shift side = 0 := by
  unfold Cr.seekE Cr.seekB at h
  unfold Cr.seekN
  by_cases hg : c.ok = true ∧ okTime sec shift
  · rw [if_pos hg] at h ⊢
    rw [if_pos hg.1, if_pos hg.2] at h
    rcases h with h | h
    · exact absurd rfl h
    · cases hq : c.seekO sec shift side with
      | none => rfl
      | some m => rw [hq] at h; cases h
  · rw [if_neg hg]
theorem Cr.next_yes {c : Cr} {sec shift side : Int} (h : c.seekB sec shift side = true) : c.ok = true ∧ okTime sec shift ∧ c.seekE sec shift = 0 ∧ c.seekO sec shift side = some (c.seekN sec shift side) := by
  unfold Cr.seekB at h
  by_cases hg : c.ok = true ∧ okTime sec shift
  · rw [if_pos hg] at h
    refine ⟨hg.1, hg.2, by unfold Cr.seekE; rw [if_pos hg.1, if_pos hg.2], ?_⟩
    unfold Cr.seekN
    rw [if_pos hg]
    cases hq : c.seekO sec shift side with
    | none => rw [hq] at h; cases h
    | some m => rfl
  · rw [if_neg hg] at h; cases h
theorem Cr.seekE_two (c : Cr) (sec shift : Int) : c.seekE sec shift = 0 ∨ c.seekE sec shift = 1 := by
  unfold Cr.seekE
  cases c.ok
  · exact .inr rfl
  · by_cases h : okTime sec shift
    · left; simp [h]
    · right; simp [h]
set_option maxRecDepth 100000 in
set_option maxHeartbeats 6400000 in
theorem cronNext_walk (c : Cr) (hf : c.fits) (sec : Int) (h1 : (Lit.int .i64 sec).wf = true) (shift : Int) (h2 : (Lit.int .i64 shift).wf = true) (w : World) : Calls Try.prog 5 #[.agg c.cells, .int .i64 sec, .int .i64 shift] w fun e w' => e = .returned (.bool true) ∧ Below w.heap.size w w' := by
  obtain ⟨ci, ch, cd, cm, cw, ad, aw⟩ := c
  have HB := Lib.hid ((Below.refl w.heap.size w).alloc (Nat.le_refl _) (.cells (Cr.cells ⟨ci, ch, cd, cm, cw, ad, aw⟩) 24))
  have HX := Lib.hid (Tide.At.made w 24 (Cr.cells ⟨ci, ch, cd, cm, cw, ad, aw⟩))
  have HN := Lib.hid (fun (W : World) => cronNext ⟨ci, ch, cd, cm, cw, ad, aw⟩ hf sec shift W)
  have HL := Lib.hid (fun (n : Int) (W : World) => cronLast ⟨ci, ch, cd, cm, cw, ad, aw⟩ hf n shift W)
  have HM := Lib.hid (fun (y mo d h mi s wk : Int) (W : World) => cronMatch ⟨ci, ch, cd, cm, cw, ad, aw⟩ hf y mo d h mi s wk W)
  clear hf h1 h2
  obtain ⟨g1, g2, g3⟩ := next_facts
  obtain ⟨⟨di, dh, dd, dm, dw, da, db⟩, hD⟩ : ∃ c, Hid (dailyCr 6 30 = c) := ⟨_, Lib.hid rfl⟩
  have HD := Lib.hid (fun (W : World) => cronDaily 6 30 W (by decide) (by decide))
  have k1 := dailyCr_fits (h := 6) (m := 30) (by decide) (by decide)
  rw [hD.out] at HD k1 g1 g2 g3
  have HK := Lib.hid (fun (W : World) => cronNext ⟨di, dh, dd, dm, dw, da, db⟩ k1 0 0 W)
  clear k1 hD
  have G1 := Lib.hid g1; have G2 := Lib.hid g2; have G3 := Lib.hid g3
  clear g1 g2 g3
  unfold Cr.cells at HX HB ⊢
  go_enter Try.func5, Try.ntmps5
  go_wp2_with fail
  refine (HD.out _).mono ?_
  rintro e w1 ⟨rfl, hb1⟩
  have HB1 := Lib.hid (HB.out.trans (hb1.mono HB.out.size))
  have HX1 := Lib.hid (HX.out.below hb1 HX.out.inside)
  unfold Cr.cells
  clear hb1
  go_wp2_with fail
  refine (HK.out _).mono ?_
  rintro e w2 ⟨rfl, hb2⟩
  rw [G1.out, G2.out, G3.out]
  have HB2 := Lib.hid (HB1.out.trans (hb2.mono HB1.out.size))
  have HX2 := Lib.hid (HX1.out.below hb2 HX1.out.inside)
  clear hb2
  have z0 := HX2.out.here (i := 0) rfl
  have z1 := HX2.out.here (i := 1) rfl
  have z2 := HX2.out.here (i := 2) rfl
  have z3 := HX2.out.here (i := 3) rfl
  have z4 := HX2.out.here (i := 4) rfl
  have z5 := HX2.out.here (i := 5) rfl
  have z6 := HX2.out.here (i := 6) rfl
  go_wp2_with fail
  refine (HN.out _).mono ?_
  rintro e w3 ⟨rfl, hb3⟩
  have HB3 := Lib.hid (HB2.out.trans (hb3.mono HB2.out.size))
  have HX3 := Lib.hid (HX2.out.below hb3 HX2.out.inside)
  clear hb3 z0 z1 z2 z3 z4 z5 z6
  cases hB : Cr.seekB ⟨ci, ch, cd, cm, cw, ad, aw⟩ sec shift 1
  · rw [Cr.next_no (.inr hB)]
    clear hB
    rcases Cr.seekE_two ⟨ci, ch, cd, cm, cw, ad, aw⟩ sec shift with he | he
    all_goals
      rw [he]
      clear he
      go_wp2_with fail
      go_ret
      exact ⟨rfl, HB3.out⟩
  obtain ⟨hok, ht, he, hO⟩ := Cr.next_yes hB
  rw [he]
  clear hB he
  obtain ⟨n, hn⟩ : ∃ n, Cr.seekN ⟨ci, ch, cd, cm, cw, ad, aw⟩ sec shift 1 = n := ⟨_, rfl⟩
  rw [hn] at hO ⊢
  clear hn
  obtain ⟨q1, q2, q3, q4, q5, q6, q7, q8, q9⟩ := Cr.next_back hok ht hO
  have n0 : -100000000000 ≤ n := q1.1
  have n1 : n ≤ 100000000000 := q1.2.1
  have e1 : IntKind.i64.wrap (n - 1) = n - 1 := IntWalk.i64_in _ (by omega)
  have Q1 := Lib.hid q1; have Q2 := Lib.hid q2; have Q4 := Lib.hid q4; have Q5 := Lib.hid q5; have Q6 := Lib.hid q6; have Q7 := Lib.hid q7; have Q8 := Lib.hid q8; have Q9 := Lib.hid q9
  have Q10 := Lib.hid (Cr.err_yes hok)
  clear q1 q2 q4 q5 q6 q7 q8 q9 hok ht hO
  go_wp2_with fail
  refine (civOf_yes n shift _ Q1.out).mono ?_
  rintro e w4 ⟨rfl, hb4⟩
  have HB4 := Lib.hid (HB3.out.trans (hb4.mono HB3.out.size))
  have HX4 := Lib.hid (HX3.out.below hb4 HX3.out.inside)
  clear hb4 Q1
  unfold civAgg
  rw [Q4.out]
  clear Q4
  generalize Tide.yrOf ((n + 60 * shift) / 86400) = yr
  generalize Tide.moOf ((n + 60 * shift) / 86400) = mo at Q2 ⊢
  generalize Tide.dyOf ((n + 60 * shift) / 86400) = dy at Q2 ⊢
  generalize (n + 60 * shift) % 86400 / 3600 = hh at Q2 ⊢
  generalize (n + 60 * shift) % 86400 / 60 % 60 = mm at Q2 ⊢
  generalize ((n + 60 * shift) / 86400 + 4) % 7 = wk at Q2 ⊢
  have HB5 := Lib.hid (HB4.out.alloc HB4.out.size (.cells #[.int .i64 yr, .int .i64 mo, .int .i64 dy, .int .i64 hh, .int .i64 mm, .int .i64 0, .int .i64 wk] 28))
  have HX5 := Lib.hid (HX4.out.alloc (.cells #[.int .i64 yr, .int .i64 mo, .int .i64 dy, .int .i64 hh, .int .i64 mm, .int .i64 0, .int .i64 wk] 28))
  have HY5 := Lib.hid (Tide.At.made w4 28 #[.int .i64 yr, .int .i64 mo, .int .i64 dy, .int .i64 hh, .int .i64 mm, .int .i64 0, .int .i64 wk])
  go_upto_region 8 with fail
  have z0 := HX5.out.here (i := 0) rfl
  have z1 := HX5.out.here (i := 1) rfl
  have z2 := HX5.out.here (i := 2) rfl
  have z3 := HX5.out.here (i := 3) rfl
  have z4 := HX5.out.here (i := 4) rfl
  have z5 := HX5.out.here (i := 5) rfl
  have z6 := HX5.out.here (i := 6) rfl
  have y0 := HY5.out.here (i := 0) rfl
  have y1 := HY5.out.here (i := 1) rfl
  have y2 := HY5.out.here (i := 2) rfl
  have y3 := HY5.out.here (i := 3) rfl
  have y4 := HY5.out.here (i := 4) rfl
  have y5 := HY5.out.here (i := 5) rfl
  have y6 := HY5.out.here (i := 6) rfl
  go_wp2_with fail
  refine (HM.out yr mo dy hh mm 0 wk _).mono ?_
  rintro e w6 ⟨rfl, hb6⟩
  rw [Q2.out, Q10.out]
  have HB6 := Lib.hid (HB5.out.trans (hb6.mono HB5.out.size))
  have HX6 := Lib.hid (HX5.out.below hb6 HX5.out.inside)
  clear y0 y1 y2 y3 y4 y5 y6
  have y5 := (HY5.out.below hb6 HY5.out.inside).here (i := 5) rfl
  clear hb6 z0 z1 z2 z3 z4 z5 z6
  have z0 := HX6.out.here (i := 0) rfl
  have z1 := HX6.out.here (i := 1) rfl
  have z2 := HX6.out.here (i := 2) rfl
  have z3 := HX6.out.here (i := 3) rfl
  have z4 := HX6.out.here (i := 4) rfl
  have z5 := HX6.out.here (i := 5) rfl
  have z6 := HX6.out.here (i := 6) rfl
  go_wp2_with fail
  refine (HL.out (n - 1) _).mono ?_
  rintro e w7 ⟨rfl, hb7⟩
  rw [Q5.out]
  have HB7 := Lib.hid (HB6.out.trans (hb7.mono HB6.out.size))
  have HX7 := Lib.hid (HX6.out.below hb7 HX6.out.inside)
  clear hb7 y5 z0 z1 z2 z3 z4 z5 z6
  have z0 := HX7.out.here (i := 0) rfl
  have z1 := HX7.out.here (i := 1) rfl
  have z2 := HX7.out.here (i := 2) rfl
  have z3 := HX7.out.here (i := 3) rfl
  have z4 := HX7.out.here (i := 4) rfl
  have z5 := HX7.out.here (i := 5) rfl
  have z6 := HX7.out.here (i := 6) rfl
  cases hb : Cr.seekB ⟨ci, ch, cd, cm, cw, ad, aw⟩ (n - 1) shift (-1)
  case' true =>
    have q6 := Q6.out hb
    generalize Cr.seekN ⟨ci, ch, cd, cm, cw, ad, aw⟩ (n - 1) shift (-1) = l at q6 ⊢
  all_goals
    clear hb Q6
    go_wp2_with fail
    refine (HL.out n _).mono ?_
    rintro e w8 ⟨rfl, hb8⟩
    rw [Q7.out, Q8.out, Q9.out]
    have HB8 := Lib.hid (HB7.out.trans (hb8.mono HB7.out.size))
    clear hb8 z0 z1 z2 z3 z4 z5 z6
    go_wp2_with fail
    go_ret
    exact ⟨rfl, HB8.out⟩
end Go.Proofs.Ytikjefghpnffkaa
