/- The walk of SpanEdges. -/
import Derived.Test.YtikjefghpnffkaaSpanX
import Derived.Test.YtikjefghpnffkaaCronO
import Derived.Test.YtikjefghpnffkaaRestC
namespace Go.Proofs.Ytikjefghpnffkaa
open Go.RowKit
set_option linter.unusedVariables false
set_option maxRecDepth 1000000 in
theorem edge_facts : spanInB (dailyCr 8 0) (dailyCr 18 0) 28800 0 = true ∧ spanInE (dailyCr 8 0) (dailyCr 18 0) 28800 0 = 0 ∧ edgeN (dailyCr 8 0) (dailyCr 18 0) 32400 0 = 64800 ∧ edgeB (dailyCr 8 0) (dailyCr 18 0) 32400 0 = true ∧ spanInE (dailyCr 8 0) (dailyCr 18 0) 32400 0 = 0 := by decide +kernel
set_option maxRecDepth 100000 in
set_option maxHeartbeats 6400000 in
theorem spanEdges_walk (ai ah ad am aw bi bh bd bm bw : Nat) (aa ab ba bb : Bool) (ha : Cr.fits ⟨ai, ah, ad, am, aw, aa, ab⟩) (hb : Cr.fits ⟨bi, bh, bd, bm, bw, ba, bb⟩) (sec shift tt : Int) (w : World) : Calls Try.prog 8 #[.agg #[.int .u64 (ai : Int), .int .u64 (ah : Int), .int .u64 (ad : Int), .int .u64 (am : Int), .int .u64 (aw : Int), .bool aa, .bool ab, .int .u64 (bi : Int), .int .u64 (bh : Int), .int .u64 (bd : Int), .int .u64 (bm : Int), .int .u64 (bw : Int), .bool ba, .bool bb], .int .i64 sec, .int .i64 shift, .int .i64 tt] w fun e w' => e = .returned (.bool true) ∧ Below w.heap.size w w' := by
  have HB := Lib.hid ((Below.refl w.heap.size w).alloc (Nat.le_refl _) (.cells #[.int .u64 (ai : Int), .int .u64 (ah : Int), .int .u64 (ad : Int), .int .u64 (am : Int), .int .u64 (aw : Int), .bool aa, .bool ab, .int .u64 (bi : Int), .int .u64 (bh : Int), .int .u64 (bd : Int), .int .u64 (bm : Int), .int .u64 (bw : Int), .bool ba, .bool bb] 42))
  have HX := Lib.hid (Tide.At.made w 42 #[.int .u64 (ai : Int), .int .u64 (ah : Int), .int .u64 (ad : Int), .int .u64 (am : Int), .int .u64 (aw : Int), .bool aa, .bool ab, .int .u64 (bi : Int), .int .u64 (bh : Int), .int .u64 (bd : Int), .int .u64 (bm : Int), .int .u64 (bw : Int), .bool ba, .bool bb])
  have HI := Lib.hid (fun (n : Int) (W : World) => spanIn ai ah ad am aw bi bh bd bm bw aa ab ba bb ha hb n shift W)
  have HEd := Lib.hid (fun (W : World) => spanEdge ai ah ad am aw bi bh bd bm bw aa ab ba bb ha hb sec shift W)
  have HLaw := Lib.hid (edge_says ha hb sec shift)
  clear ha hb
  obtain ⟨g1, g2, g3, g4, g5⟩ := edge_facts
  obtain ⟨⟨ci, ch, cd, cm, cw, ca, cb⟩, hD1⟩ : ∃ c, Hid (dailyCr 8 0 = c) := ⟨_, Lib.hid rfl⟩
  obtain ⟨⟨di, dh, dd, dm, dw, da, db⟩, hD2⟩ : ∃ c, Hid (dailyCr 18 0 = c) := ⟨_, Lib.hid rfl⟩
  have HD1 := Lib.hid (fun (W : World) => cronDaily 8 0 W (by decide) (by decide))
  have HD2 := Lib.hid (fun (W : World) => cronDaily 18 0 W (by decide) (by decide))
  have k1 := dailyCr_fits (h := 8) (m := 0) (by decide) (by decide)
  have k2 := dailyCr_fits (h := 18) (m := 0) (by decide) (by decide)
  rw [hD1.out] at HD1 k1 g1 g2 g3 g4 g5
  rw [hD2.out] at HD2 k2 g1 g2 g3 g4 g5
  have HK := Lib.hid (fun (W : World) => spanIn ci ch cd cm cw di dh dd dm dw ca cb da db k1 k2 28800 0 W)
  have HKE := Lib.hid (fun (W : World) => spanEdge ci ch cd cm cw di dh dd dm dw ca cb da db k1 k2 32400 0 W)
  clear k1 k2 hD1 hD2
  have G1 := Lib.hid g1; have G2 := Lib.hid g2; have G3 := Lib.hid g3; have G4 := Lib.hid g4; have G5 := Lib.hid g5
  clear g1 g2 g3 g4 g5
  go_enter Try.func8, Try.ntmps8
  go_wp2_with fail
  refine (HD1.out _).mono ?_
  rintro e w1 ⟨rfl, hb1⟩
  have HB1 := Lib.hid (HB.out.trans (hb1.mono HB.out.size))
  have HX1 := Lib.hid (HX.out.below hb1 HX.out.inside)
  unfold Cr.cells
  clear hb1
  go_wp2_with fail
  refine (HD2.out _).mono ?_
  rintro e w2 ⟨rfl, hb2⟩
  have HB2 := Lib.hid (HB1.out.trans (hb2.mono HB1.out.size))
  have HX2 := Lib.hid (HX1.out.below hb2 HX1.out.inside)
  unfold Cr.cells
  clear hb2
  go_upto_region 2 with fail
  have HB2' := Lib.hid (HB2.out.alloc HB2.out.size (.cells #[.int .u64 (ci : Int), .int .u64 (ch : Int), .int .u64 (cd : Int), .int .u64 (cm : Int), .int .u64 (cw : Int), .bool ca, .bool cb, .int .u64 (di : Int), .int .u64 (dh : Int), .int .u64 (dd : Int), .int .u64 (dm : Int), .int .u64 (dw : Int), .bool da, .bool db] 42))
  have HX2' := Lib.hid (HX2.out.alloc (.cells #[.int .u64 (ci : Int), .int .u64 (ch : Int), .int .u64 (cd : Int), .int .u64 (cm : Int), .int .u64 (cw : Int), .bool ca, .bool cb, .int .u64 (di : Int), .int .u64 (dh : Int), .int .u64 (dd : Int), .int .u64 (dm : Int), .int .u64 (dw : Int), .bool da, .bool db] 42))
  have HY2' := Lib.hid (Tide.At.made w2 42 #[.int .u64 (ci : Int), .int .u64 (ch : Int), .int .u64 (cd : Int), .int .u64 (cm : Int), .int .u64 (cw : Int), .bool ca, .bool cb, .int .u64 (di : Int), .int .u64 (dh : Int), .int .u64 (dd : Int), .int .u64 (dm : Int), .int .u64 (dw : Int), .bool da, .bool db])
  generalize w2.alloc (.cells #[.int .u64 (ci : Int), .int .u64 (ch : Int), .int .u64 (cd : Int), .int .u64 (cm : Int), .int .u64 (cw : Int), .bool ca, .bool cb, .int .u64 (di : Int), .int .u64 (dh : Int), .int .u64 (dd : Int), .int .u64 (dm : Int), .int .u64 (dw : Int), .bool da, .bool db] 42) = W at HB2' HX2' HY2' ⊢
  generalize w2.heap.size = g at HY2' ⊢
  clear HB HX HB1 HX1 HB2 HX2
  have u0 := HY2'.out.here (i := 0) rfl; have u1 := HY2'.out.here (i := 1) rfl; have u2 := HY2'.out.here (i := 2) rfl; have u3 := HY2'.out.here (i := 3) rfl; have u4 := HY2'.out.here (i := 4) rfl; have u5 := HY2'.out.here (i := 5) rfl; have u6 := HY2'.out.here (i := 6) rfl; have u7 := HY2'.out.here (i := 7) rfl; have u8 := HY2'.out.here (i := 8) rfl; have u9 := HY2'.out.here (i := 9) rfl; have u10 := HY2'.out.here (i := 10) rfl; have u11 := HY2'.out.here (i := 11) rfl; have u12 := HY2'.out.here (i := 12) rfl; have u13 := HY2'.out.here (i := 13) rfl
  go_wp2_with fail
  refine (HK.out _).mono ?_
  rintro e w3 ⟨rfl, hb3⟩
  rw [G1.out, G2.out]
  have HB3 := Lib.hid (HB2'.out.trans (hb3.mono HB2'.out.size))
  have HX3 := Lib.hid (HX2'.out.below hb3 HX2'.out.inside)
  have HY3 := Lib.hid (HY2'.out.below hb3 HY2'.out.inside)
  clear hb3 u0 u1 u2 u3 u4 u5 u6 u7 u8 u9 u10 u11 u12 u13 HB2' HX2' HY2'
  have u0 := HY3.out.here (i := 0) rfl; have u1 := HY3.out.here (i := 1) rfl; have u2 := HY3.out.here (i := 2) rfl; have u3 := HY3.out.here (i := 3) rfl; have u4 := HY3.out.here (i := 4) rfl; have u5 := HY3.out.here (i := 5) rfl; have u6 := HY3.out.here (i := 6) rfl; have u7 := HY3.out.here (i := 7) rfl; have u8 := HY3.out.here (i := 8) rfl; have u9 := HY3.out.here (i := 9) rfl; have u10 := HY3.out.here (i := 10) rfl; have u11 := HY3.out.here (i := 11) rfl; have u12 := HY3.out.here (i := 12) rfl; have u13 := HY3.out.here (i := 13) rfl
  go_wp2_with fail
  refine (HKE.out _).mono ?_
  rintro e w4 ⟨rfl, hb4⟩
  rw [G3.out, G4.out, G5.out]
  have HB4 := Lib.hid (HB3.out.trans (hb4.mono HB3.out.size))
  have HX4 := Lib.hid (HX3.out.below hb4 HX3.out.inside)
  clear hb4 u0 u1 u2 u3 u4 u5 u6 u7 u8 u9 u10 u11 u12 u13 HB3 HX3 HY3
  have z0 := HX4.out.here (i := 0) rfl; have z1 := HX4.out.here (i := 1) rfl; have z2 := HX4.out.here (i := 2) rfl; have z3 := HX4.out.here (i := 3) rfl; have z4 := HX4.out.here (i := 4) rfl; have z5 := HX4.out.here (i := 5) rfl; have z6 := HX4.out.here (i := 6) rfl; have z7 := HX4.out.here (i := 7) rfl; have z8 := HX4.out.here (i := 8) rfl; have z9 := HX4.out.here (i := 9) rfl; have z10 := HX4.out.here (i := 10) rfl; have z11 := HX4.out.here (i := 11) rfl; have z12 := HX4.out.here (i := 12) rfl; have z13 := HX4.out.here (i := 13) rfl
  go_wp2_with fail
  refine (HEd.out _).mono ?_
  rintro e w5 ⟨rfl, hb5⟩
  have HB5 := Lib.hid (HB4.out.trans (hb5.mono HB4.out.size))
  have HX5 := Lib.hid (HX4.out.below hb5 HX4.out.inside)
  clear hb5 z0 z1 z2 z3 z4 z5 z6 z7 z8 z9 z10 z11 z12 z13 HB4 HX4
  obtain ⟨n, hn⟩ : ∃ n, edgeN ⟨ai, ah, ad, am, aw, aa, ab⟩ ⟨bi, bh, bd, bm, bw, ba, bb⟩ sec shift = n := ⟨_, rfl⟩
  have hl := HLaw.out
  rw [hn] at hl ⊢
  clear hn HLaw
  rcases hl with ⟨l1, l2, l3⟩ | ⟨l1, hE, hS, hN, hlt, hne, hsame⟩
  · rw [l1, l2]
    clear l1 l2
    rcases l3 with l3 | l3
    all_goals
      rw [l3]
      clear l3
      go_wp2_with fail
      go_ret
      exact ⟨rfl, HB5.out⟩
  have HE := Lib.hid hE; have HS := Lib.hid hS; have HN := Lib.hid hN; have HSame := Lib.hid hsame
  rw [l1, spanInE_is hE hS]
  obtain ⟨x, hx⟩ : ∃ x, spanInB ⟨ai, ah, ad, am, aw, aa, ab⟩ ⟨bi, bh, bd, bm, bw, ba, bb⟩ sec shift = x := ⟨_, rfl⟩
  have h2 : spanInB ⟨ai, ah, ad, am, aw, aa, ab⟩ ⟨bi, bh, bd, bm, bw, ba, bb⟩ n shift = !x := by
    rw [hx] at hne
    cases x <;> cases hq : spanInB ⟨ai, ah, ad, am, aw, aa, ab⟩ ⟨bi, bh, bd, bm, bw, ba, bb⟩ n shift <;> simp_all
  have H1 := Lib.hid hx; have H2 := Lib.hid h2
  have d0 : 1 ≤ n - sec := by omega
  have d1 : n - sec ≤ 1000000000000 := by unfold okTime at hS hN; omega
  have D0 := Lib.hid d0; have D1 := Lib.hid d1
  have q1 : IntKind.i64.wrap (n - sec) = n - sec := IntWalk.i64_in _ (by omega)
  have r0 : 0 ≤ tt % (n - sec) := Int.emod_nonneg _ (by omega)
  have r1 : tt % (n - sec) < n - sec := Int.emod_lt_of_pos _ (by omega)
  have q2 : IntKind.i64.wrap (sec + tt % (n - sec)) = sec + tt % (n - sec) := IntWalk.i64_in _ (by unfold okTime at hS hN; omega)
  have hT : okTime (sec + tt % (n - sec)) shift := by unfold okTime at hS hN ⊢; omega
  have h3 : spanInB ⟨ai, ah, ad, am, aw, aa, ab⟩ ⟨bi, bh, bd, bm, bw, ba, bb⟩ (sec + tt % (n - sec)) shift = x := by rw [hsame _ (by omega) (by omega)]; exact hx
  have H3 := Lib.hid h3; have H3E := Lib.hid (spanInE_is hE hT)
  have Q1 := Lib.hid q1; have Q2 := Lib.hid q2
  have H1E := Lib.hid (spanInE_is hE hS); have H2E := Lib.hid (spanInE_is hE hN)
  clear l1 hE hS hN hne hsame hx h2 d0 d1 q1 r0 r1 q2 hT h3
  have z0 := HX5.out.here (i := 0) rfl; have z1 := HX5.out.here (i := 1) rfl; have z2 := HX5.out.here (i := 2) rfl; have z3 := HX5.out.here (i := 3) rfl; have z4 := HX5.out.here (i := 4) rfl; have z5 := HX5.out.here (i := 5) rfl; have z6 := HX5.out.here (i := 6) rfl; have z7 := HX5.out.here (i := 7) rfl; have z8 := HX5.out.here (i := 8) rfl; have z9 := HX5.out.here (i := 9) rfl; have z10 := HX5.out.here (i := 10) rfl; have z11 := HX5.out.here (i := 11) rfl; have z12 := HX5.out.here (i := 12) rfl; have z13 := HX5.out.here (i := 13) rfl
  go_wp2_with fail
  refine (HI.out _ _).mono ?_
  rintro e w6 ⟨rfl, hb6⟩
  rw [H1.out, H1E.out]
  have HB6 := Lib.hid (HB5.out.trans (hb6.mono HB5.out.size))
  have HX6 := Lib.hid (HX5.out.below hb6 HX5.out.inside)
  clear hb6 z0 z1 z2 z3 z4 z5 z6 z7 z8 z9 z10 z11 z12 z13 HB5 HX5
  have z0 := HX6.out.here (i := 0) rfl; have z1 := HX6.out.here (i := 1) rfl; have z2 := HX6.out.here (i := 2) rfl; have z3 := HX6.out.here (i := 3) rfl; have z4 := HX6.out.here (i := 4) rfl; have z5 := HX6.out.here (i := 5) rfl; have z6 := HX6.out.here (i := 6) rfl; have z7 := HX6.out.here (i := 7) rfl; have z8 := HX6.out.here (i := 8) rfl; have z9 := HX6.out.here (i := 9) rfl; have z10 := HX6.out.here (i := 10) rfl; have z11 := HX6.out.here (i := 11) rfl; have z12 := HX6.out.here (i := 12) rfl; have z13 := HX6.out.here (i := 13) rfl
  go_wp2_with fail
  refine (HI.out _ _).mono ?_
  rintro e w7 ⟨rfl, hb7⟩
  rw [H2.out, H2E.out]
  have HB7 := Lib.hid (HB6.out.trans (hb7.mono HB6.out.size))
  have HX7 := Lib.hid (HX6.out.below hb7 HX6.out.inside)
  clear hb7 z0 z1 z2 z3 z4 z5 z6 z7 z8 z9 z10 z11 z12 z13 HB6 HX6
  have z0 := HX7.out.here (i := 0) rfl; have z1 := HX7.out.here (i := 1) rfl; have z2 := HX7.out.here (i := 2) rfl; have z3 := HX7.out.here (i := 3) rfl; have z4 := HX7.out.here (i := 4) rfl; have z5 := HX7.out.here (i := 5) rfl; have z6 := HX7.out.here (i := 6) rfl; have z7 := HX7.out.here (i := 7) rfl; have z8 := HX7.out.here (i := 8) rfl; have z9 := HX7.out.here (i := 9) rfl; have z10 := HX7.out.here (i := 10) rfl; have z11 := HX7.out.here (i := 11) rfl; have z12 := HX7.out.here (i := 12) rfl; have z13 := HX7.out.here (i := 13) rfl
  have q1 := Q1.out
  go_wp2_with fail
  go_region_held3 (fun w' => w'.cell? ⟨w.heap.size, 0, none⟩ = some (.int .u64 (ai : Int)) ∧ w'.cell? ⟨w.heap.size, 1, none⟩ = some (.int .u64 (ah : Int)) ∧ w'.cell? ⟨w.heap.size, 2, none⟩ = some (.int .u64 (ad : Int)) ∧ w'.cell? ⟨w.heap.size, 3, none⟩ = some (.int .u64 (am : Int)) ∧ w'.cell? ⟨w.heap.size, 4, none⟩ = some (.int .u64 (aw : Int)) ∧ w'.cell? ⟨w.heap.size, 5, none⟩ = some (.bool aa) ∧ w'.cell? ⟨w.heap.size, 6, none⟩ = some (.bool ab) ∧ w'.cell? ⟨w.heap.size, 7, none⟩ = some (.int .u64 (bi : Int)) ∧ w'.cell? ⟨w.heap.size, 8, none⟩ = some (.int .u64 (bh : Int)) ∧ w'.cell? ⟨w.heap.size, 9, none⟩ = some (.int .u64 (bd : Int)) ∧ w'.cell? ⟨w.heap.size, 10, none⟩ = some (.int .u64 (bm : Int)) ∧ w'.cell? ⟨w.heap.size, 11, none⟩ = some (.int .u64 (bw : Int)) ∧ w'.cell? ⟨w.heap.size, 12, none⟩ = some (.bool ba) ∧ w'.cell? ⟨w.heap.size, 13, none⟩ = some (.bool bb)) (first | exact ⟨z0, z1, z2, z3, z4, z5, z6, z7, z8, z9, z10, z11, z12, z13⟩ | exact ⟨y0, y1, y2, y3, y4, y5, y6, y7, y8, y9, y10, y11, y12, y13⟩ | go_keep) (first | (go_at_call 18; refine (restC _ _ _ D0.out D1.out).mono ?_; rintro e w8 ⟨rfl, rfl⟩) | (go_at_call 21; (try rw [Q2.out]); refine (HI.out _ _).mono ?_; rintro e w9 ⟨rfl, hb9⟩; rw [H3.out, H3E.out]; have HB9 := Lib.hid hb9; have HX9 := Lib.hid (Tide.At.below HX7.out.drew hb9 HX7.out.drew.inside); have y0 := HX9.out.here (i := 0) rfl; have y1 := HX9.out.here (i := 1) rfl; have y2 := HX9.out.here (i := 2) rfl; have y3 := HX9.out.here (i := 3) rfl; have y4 := HX9.out.here (i := 4) rfl; have y5 := HX9.out.here (i := 5) rfl; have y6 := HX9.out.here (i := 6) rfl; have y7 := HX9.out.here (i := 7) rfl; have y8 := HX9.out.here (i := 8) rfl; have y9 := HX9.out.here (i := 9) rfl; have y10 := HX9.out.here (i := 10) rfl; have y11 := HX9.out.here (i := 11) rfl; have y12 := HX9.out.here (i := 12) rfl; have y13 := HX9.out.here (i := 13) rfl))
  all_goals
    have HF := Lib.hid (HB7.out.drew.trans (hb9.mono HB7.out.drew.size))
    have hlt : sec < n := by have := D0.out; omega
    clear hb9 HB9 HX9 y0 y1 y2 y3 y4 y5 y6 y7 y8 y9 y10 y11 y12 y13 z0 z1 z2 z3 z4 z5 z6 z7 z8 z9 z10 z11 z12 z13 q1
    cases x
    all_goals
      go_wp2_with fail
      go_ret
      exact ⟨rfl, HF.out⟩
end Go.Proofs.Ytikjefghpnffkaa
