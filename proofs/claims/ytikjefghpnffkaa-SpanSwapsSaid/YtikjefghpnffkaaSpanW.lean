/- The walk of SpanSwaps. -/
import Derived.Test.YtikjefghpnffkaaSpanC
import Derived.Test.YtikjefghpnffkaaCronO
namespace Go.Proofs.Ytikjefghpnffkaa
open Go.RowKit
set_option linter.unusedVariables false
set_option maxRecDepth 1000000 in
theorem swap_facts : spanInB (dailyCr 18 0) (dailyCr 8 0) 0 0 = true ∧ spanInE (dailyCr 18 0) (dailyCr 8 0) 0 0 = 0 := by decide +kernel
theorem spanE_swap (a b : Cr) : (spanE a b = 0 ∧ spanE b a = 0 ∧ a.ok = true ∧ b.ok = true) ∨ (spanE a b = 1 ∧ spanE b a = 1) := by
  unfold spanE Cr.err
  cases a.ok <;> cases b.ok <;> simp
theorem spanIn_bad {a b : Cr} {sec shift : Int} (h : ¬ (spanE a b = 0 ∧ okTime sec shift)) : spanInB a b sec shift = false ∧ spanInE a b sec shift = 1 ∧ spanInB b a sec shift = false ∧ spanInE b a sec shift = 1 := by
  unfold spanInB spanInE
  rcases spanE_swap a b with ⟨h1, h2, _, _⟩ | ⟨h1, h2⟩
  · have h3 : ¬ okTime sec shift := fun c => h ⟨h1, c⟩
    simp [h1, h2, h3]
  · simp [h1, h2]
theorem spanIn_good {a b : Cr} {sec shift : Int} (h : spanE a b = 0 ∧ okTime sec shift) : spanInE a b sec shift = 0 ∧ spanInE b a sec shift = 0 ∧ a.seekE sec shift = 0 ∧ b.seekE sec shift = 0 ∧
    spanInB a b sec shift = (a.seekB sec shift (-1) && (!(b.seekB sec shift (-1)) || decide (b.seekN sec shift (-1) ≤ a.seekN sec shift (-1)))) ∧ spanInB b a sec shift = (b.seekB sec shift (-1) && (!(a.seekB sec shift (-1)) || decide (a.seekN sec shift (-1) ≤ b.seekN sec shift (-1)))) := by
  rcases spanE_swap a b with ⟨h1, h2, h3, h4⟩ | ⟨h1, h2⟩
  · unfold spanInE spanInB Cr.seekE
    simp [h1, h2, h3, h4, h.2]
  · rw [h1] at h; exact absurd h.1 (by decide)
set_option maxRecDepth 100000 in
set_option maxHeartbeats 6400000 in
theorem spanSwaps_walk (ai ah ad am aw bi bh bd bm bw : Nat) (aa ab ba bb : Bool) (ha : Cr.fits ⟨ai, ah, ad, am, aw, aa, ab⟩) (hb : Cr.fits ⟨bi, bh, bd, bm, bw, ba, bb⟩) (sec shift : Int) (w : World) : Calls Try.prog 6 #[.agg #[.int .u64 (ai : Int), .int .u64 (ah : Int), .int .u64 (ad : Int), .int .u64 (am : Int), .int .u64 (aw : Int), .bool aa, .bool ab, .int .u64 (bi : Int), .int .u64 (bh : Int), .int .u64 (bd : Int), .int .u64 (bm : Int), .int .u64 (bw : Int), .bool ba, .bool bb], .int .i64 sec, .int .i64 shift] w fun e w' => e = .returned (.bool true) ∧ Below w.heap.size w w' := by
  have HB := Lib.hid ((Below.refl w.heap.size w).alloc (Nat.le_refl _) (.cells #[.int .u64 (ai : Int), .int .u64 (ah : Int), .int .u64 (ad : Int), .int .u64 (am : Int), .int .u64 (aw : Int), .bool aa, .bool ab, .int .u64 (bi : Int), .int .u64 (bh : Int), .int .u64 (bd : Int), .int .u64 (bm : Int), .int .u64 (bw : Int), .bool ba, .bool bb] 42))
  have HX := Lib.hid (Tide.At.made w 42 #[.int .u64 (ai : Int), .int .u64 (ah : Int), .int .u64 (ad : Int), .int .u64 (am : Int), .int .u64 (aw : Int), .bool aa, .bool ab, .int .u64 (bi : Int), .int .u64 (bh : Int), .int .u64 (bd : Int), .int .u64 (bm : Int), .int .u64 (bw : Int), .bool ba, .bool bb])
  have HI1 := Lib.hid (fun (W : World) => spanIn ai ah ad am aw bi bh bd bm bw aa ab ba bb ha hb sec shift W)
  have HI2 := Lib.hid (fun (W : World) => spanIn bi bh bd bm bw ai ah ad am aw ba bb aa ab hb ha sec shift W)
  have HL1 := Lib.hid (fun (W : World) => cronLast ⟨ai, ah, ad, am, aw, aa, ab⟩ ha sec shift W)
  have HL2 := Lib.hid (fun (W : World) => cronLast ⟨bi, bh, bd, bm, bw, ba, bb⟩ hb sec shift W)
  clear ha hb
  obtain ⟨g1, g2⟩ := swap_facts
  obtain ⟨⟨ci, ch, cd, cm, cw, ca, cb⟩, hD1⟩ : ∃ c, Hid (dailyCr 18 0 = c) := ⟨_, Lib.hid rfl⟩
  obtain ⟨⟨di, dh, dd, dm, dw, da, db⟩, hD2⟩ : ∃ c, Hid (dailyCr 8 0 = c) := ⟨_, Lib.hid rfl⟩
  have HD1 := Lib.hid (fun (W : World) => cronDaily 18 0 W (by decide) (by decide))
  have HD2 := Lib.hid (fun (W : World) => cronDaily 8 0 W (by decide) (by decide))
  have k1 := dailyCr_fits (h := 18) (m := 0) (by decide) (by decide)
  have k2 := dailyCr_fits (h := 8) (m := 0) (by decide) (by decide)
  rw [hD1.out] at HD1 k1 g1 g2
  rw [hD2.out] at HD2 k2 g1 g2
  have HK := Lib.hid (fun (W : World) => spanIn ci ch cd cm cw di dh dd dm dw ca cb da db k1 k2 0 0 W)
  clear k1 k2 hD1 hD2
  have G1 := Lib.hid g1; have G2 := Lib.hid g2
  clear g1 g2
  go_enter Try.func6, Try.ntmps6
  go_wp2_with fail
  refine (HD1.out _).mono ?_
  rintro e w1 ⟨rfl, hb1⟩
  have HB1 := Lib.hid (HB.out.trans (hb1.mono HB.out.size))
  have HX1 := Lib.hid (HX.out.below hb1 HX.out.inside)
  unfold Cr.cells
  clear hb1
  go_wp2_with fail
  refine (HD2.out _).mono ?_
  rintro e w2 ⟨rfl, hb2⟩
  have HB2 := Lib.hid (HB1.out.trans (hb2.mono HB1.out.size))
  have HX2 := Lib.hid (HX1.out.below hb2 HX1.out.inside)
  unfold Cr.cells
  clear hb2
  go_wp2_with fail
  refine (HK.out _).mono ?_
  rintro e w3 ⟨rfl, hb3⟩
  rw [G1.out, G2.out]
  have HB3 := Lib.hid (HB2.out.trans (hb3.mono HB2.out.size))
  have HX3 := Lib.hid (HX2.out.below hb3 HX2.out.inside)
  clear hb3
  have z0 := HX3.out.here (i := 0) rfl
  have z1 := HX3.out.here (i := 1) rfl
  have z2 := HX3.out.here (i := 2) rfl
  have z3 := HX3.out.here (i := 3) rfl
  have z4 := HX3.out.here (i := 4) rfl
  have z5 := HX3.out.here (i := 5) rfl
  have z6 := HX3.out.here (i := 6) rfl
  have z7 := HX3.out.here (i := 7) rfl
  have z8 := HX3.out.here (i := 8) rfl
  have z9 := HX3.out.here (i := 9) rfl
  have z10 := HX3.out.here (i := 10) rfl
  have z11 := HX3.out.here (i := 11) rfl
  have z12 := HX3.out.here (i := 12) rfl
  have z13 := HX3.out.here (i := 13) rfl
  go_wp2_with fail
  refine (HI1.out _).mono ?_
  rintro e w4 ⟨rfl, hb4⟩
  have HB4 := Lib.hid (HB3.out.trans (hb4.mono HB3.out.size))
  have HX4 := Lib.hid (HX3.out.below hb4 HX3.out.inside)
  clear hb4 z0 z1 z2 z3 z4 z5 z6 z7 z8 z9 z10 z11 z12 z13
  have z0 := HX4.out.here (i := 0) rfl
  have z1 := HX4.out.here (i := 1) rfl
  have z2 := HX4.out.here (i := 2) rfl
  have z3 := HX4.out.here (i := 3) rfl
  have z4 := HX4.out.here (i := 4) rfl
  have z5 := HX4.out.here (i := 5) rfl
  have z6 := HX4.out.here (i := 6) rfl
  have z7 := HX4.out.here (i := 7) rfl
  have z8 := HX4.out.here (i := 8) rfl
  have z9 := HX4.out.here (i := 9) rfl
  have z10 := HX4.out.here (i := 10) rfl
  have z11 := HX4.out.here (i := 11) rfl
  have z12 := HX4.out.here (i := 12) rfl
  have z13 := HX4.out.here (i := 13) rfl
  go_wp2_with fail
  refine (HI2.out _).mono ?_
  rintro e w5 ⟨rfl, hb5⟩
  have HB5 := Lib.hid (HB4.out.trans (hb5.mono HB4.out.size))
  have HX5 := Lib.hid (HX4.out.below hb5 HX4.out.inside)
  clear hb5 z0 z1 z2 z3 z4 z5 z6 z7 z8 z9 z10 z11 z12 z13
  by_cases hg : spanE ⟨ai, ah, ad, am, aw, aa, ab⟩ ⟨bi, bh, bd, bm, bw, ba, bb⟩ = 0 ∧ okTime sec shift
  case neg =>
    obtain ⟨e1, e2, e3, e4⟩ := spanIn_bad hg
    rw [e1, e2, e3, e4]
    clear e1 e2 e3 e4 hg
    go_wp2_with fail
    go_ret
    exact ⟨rfl, HB5.out⟩
  obtain ⟨e1, e2, e3, e4, e5, e6⟩ := spanIn_good hg
  have E3 := Lib.hid e3; have E4 := Lib.hid e4
  rw [e1, e2, e5, e6]
  clear e1 e2 e3 e4 e5 e6 hg
  have z0 := HX5.out.here (i := 0) rfl
  have z1 := HX5.out.here (i := 1) rfl
  have z2 := HX5.out.here (i := 2) rfl
  have z3 := HX5.out.here (i := 3) rfl
  have z4 := HX5.out.here (i := 4) rfl
  have z5 := HX5.out.here (i := 5) rfl
  have z6 := HX5.out.here (i := 6) rfl
  have z7 := HX5.out.here (i := 7) rfl
  have z8 := HX5.out.here (i := 8) rfl
  have z9 := HX5.out.here (i := 9) rfl
  have z10 := HX5.out.here (i := 10) rfl
  have z11 := HX5.out.here (i := 11) rfl
  have z12 := HX5.out.here (i := 12) rfl
  have z13 := HX5.out.here (i := 13) rfl
  go_wp2_with fail
  refine (HL1.out _).mono ?_
  rintro e w6 ⟨rfl, hb6⟩
  have HB6 := Lib.hid (HB5.out.trans (hb6.mono HB5.out.size))
  have HX6 := Lib.hid (HX5.out.below hb6 HX5.out.inside)
  rw [E3.out]
  clear hb6 z0 z1 z2 z3 z4 z5 z6 z7 z8 z9 z10 z11 z12 z13
  have z0 := HX6.out.here (i := 0) rfl
  have z1 := HX6.out.here (i := 1) rfl
  have z2 := HX6.out.here (i := 2) rfl
  have z3 := HX6.out.here (i := 3) rfl
  have z4 := HX6.out.here (i := 4) rfl
  have z5 := HX6.out.here (i := 5) rfl
  have z6 := HX6.out.here (i := 6) rfl
  have z7 := HX6.out.here (i := 7) rfl
  have z8 := HX6.out.here (i := 8) rfl
  have z9 := HX6.out.here (i := 9) rfl
  have z10 := HX6.out.here (i := 10) rfl
  have z11 := HX6.out.here (i := 11) rfl
  have z12 := HX6.out.here (i := 12) rfl
  have z13 := HX6.out.here (i := 13) rfl
  go_wp2_with fail
  refine (HL2.out _).mono ?_
  rintro e w7 ⟨rfl, hb7⟩
  have HB7 := Lib.hid (HB6.out.trans (hb7.mono HB6.out.size))
  rw [E4.out]
  clear hb7 z0 z1 z2 z3 z4 z5 z6 z7 z8 z9 z10 z11 z12 z13
  generalize Cr.seekN ⟨ai, ah, ad, am, aw, aa, ab⟩ sec shift (-1) = na
  generalize Cr.seekN ⟨bi, bh, bd, bm, bw, ba, bb⟩ sec shift (-1) = nb
  generalize Cr.seekB ⟨ai, ah, ad, am, aw, aa, ab⟩ sec shift (-1) = xa
  generalize Cr.seekB ⟨bi, bh, bd, bm, bw, ba, bb⟩ sec shift (-1) = xb
  have hn : na < nb ∨ na = nb ∨ nb < na := by omega
  rcases hn with hn | hn | hn
  · have d1 : decide (nb ≤ na) = false := decide_eq_false (by omega)
    have d2 : decide (na ≤ nb) = true := decide_eq_true (by omega)
    have d3 : (na == nb) = false := by simp; omega
    rw [d1, d2]
    clear d1 d2 hn
    cases xa <;> cases xb
    all_goals
      go_wp2_with fail
      go_ret
      exact ⟨rfl, HB7.out⟩
  · subst hn
    have d1 : decide (na ≤ na) = true := decide_eq_true (Int.le_refl _)
    rw [d1]
    clear d1
    cases xa <;> cases xb
    all_goals
      go_wp2_with fail
      go_ret
      exact ⟨rfl, HB7.out⟩
  · have d1 : decide (nb ≤ na) = true := decide_eq_true (by omega)
    have d2 : decide (na ≤ nb) = false := decide_eq_false (by omega)
    have d3 : (na == nb) = false := by simp; omega
    rw [d1, d2]
    clear d1 d2 hn
    cases xa <;> cases xb
    all_goals
      go_wp2_with fail
      go_ret
      exact ⟨rfl, HB7.out⟩
end Go.Proofs.Ytikjefghpnffkaa
