/- The walk of SpanSays. -/
import Derived.Test.YtikjefghpnffkaaSpanR
namespace Go.Proofs.Ytikjefghpnffkaa
open Go.RowKit
set_option linter.unusedVariables false
set_option maxRecDepth 100000 in
set_option maxHeartbeats 6400000 in
theorem spanSays_walk (ai ah ad am aw bi bh bd bm bw : Nat) (aa ab ba bb : Bool) (ha : Cr.fits ⟨ai, ah, ad, am, aw, aa, ab⟩) (hb : Cr.fits ⟨bi, bh, bd, bm, bw, ba, bb⟩) (sec shift : Int) (w : World) : Calls Try.prog 7 #[.agg #[.int .u64 (ai : Int), .int .u64 (ah : Int), .int .u64 (ad : Int), .int .u64 (am : Int), .int .u64 (aw : Int), .bool aa, .bool ab, .int .u64 (bi : Int), .int .u64 (bh : Int), .int .u64 (bd : Int), .int .u64 (bm : Int), .int .u64 (bw : Int), .bool ba, .bool bb], .int .i64 sec, .int .i64 shift] w fun e w' => e = .returned (.bool true) ∧ Below w.heap.size w w' := by
  have HB := Lib.hid ((Below.refl w.heap.size w).alloc (Nat.le_refl _) (.cells #[.int .u64 (ai : Int), .int .u64 (ah : Int), .int .u64 (ad : Int), .int .u64 (am : Int), .int .u64 (aw : Int), .bool aa, .bool ab, .int .u64 (bi : Int), .int .u64 (bh : Int), .int .u64 (bd : Int), .int .u64 (bm : Int), .int .u64 (bw : Int), .bool ba, .bool bb] 42))
  have HX := Lib.hid (Tide.At.made w 42 #[.int .u64 (ai : Int), .int .u64 (ah : Int), .int .u64 (ad : Int), .int .u64 (am : Int), .int .u64 (aw : Int), .bool aa, .bool ab, .int .u64 (bi : Int), .int .u64 (bh : Int), .int .u64 (bd : Int), .int .u64 (bm : Int), .int .u64 (bw : Int), .bool ba, .bool bb])
  have HS := Lib.hid (fun (W : World) => refSpan ai ah ad am aw bi bh bd bm bw aa ab ba bb ha hb W)
  have HC := Lib.hid (fun (W : World) => spanCheck ai ah ad am aw bi bh bd bm bw aa ab ba bb ha hb W)
  have HI := Lib.hid (fun (W : World) => spanIn ai ah ad am aw bi bh bd bm bw aa ab ba bb ha hb sec shift W)
  have HE := Lib.hid (fun (W : World) => spanEdge ai ah ad am aw bi bh bd bm bw aa ab ba bb ha hb sec shift W)
  by_cases hok : spanE ⟨ai, ah, ad, am, aw, aa, ab⟩ ⟨bi, bh, bd, bm, bw, ba, bb⟩ = 0
  · by_cases hot : okTime sec shift
    · have hse : spanInE ⟨ai, ah, ad, am, aw, aa, ab⟩ ⟨bi, bh, bd, bm, bw, ba, bb⟩ sec shift = 0 := spanInE_is hok hot
      have HO := Lib.hid (fun (W : World) => refOf_yes sec shift W hot)
      have HW := Lib.hid (fun (W : World) => refWithin ai ah ad am aw bi bh bd bm bw aa ab ba bb ha hb sec shift W hok hot)
      have HR := Lib.hid (fun (W : World) => refEdge ai ah ad am aw bi bh bd bm bw aa ab ba bb ha hb sec shift W hok hot)
      rw [hok] at HS HC
      rw [hse] at HI HE
      generalize spanInB ⟨ai, ah, ad, am, aw, aa, ab⟩ ⟨bi, bh, bd, bm, bw, ba, bb⟩ sec shift = b1 at HI HW
      generalize edgeN ⟨ai, ah, ad, am, aw, aa, ab⟩ ⟨bi, bh, bd, bm, bw, ba, bb⟩ sec shift = n1 at HE HR
      generalize edgeB ⟨ai, ah, ad, am, aw, aa, ab⟩ ⟨bi, bh, bd, bm, bw, ba, bb⟩ sec shift = b2 at HE HR
      clear hok hot hse ha hb
      have x0 := HX.out.here (i := 0) rfl; have x1 := HX.out.here (i := 1) rfl; have x2 := HX.out.here (i := 2) rfl; have x3 := HX.out.here (i := 3) rfl; have x4 := HX.out.here (i := 4) rfl; have x5 := HX.out.here (i := 5) rfl; have x6 := HX.out.here (i := 6) rfl; have x7 := HX.out.here (i := 7) rfl; have x8 := HX.out.here (i := 8) rfl; have x9 := HX.out.here (i := 9) rfl; have x10 := HX.out.here (i := 10) rfl; have x11 := HX.out.here (i := 11) rfl; have x12 := HX.out.here (i := 12) rfl; have x13 := HX.out.here (i := 13) rfl
      go_enter Try.func7, Try.ntmps7
      go_wp2_with fail
      refine (HS.out _).mono ?_
      rintro e w1 ⟨rfl, hb1⟩
      have HB1 := Lib.hid (HB.out.trans (hb1.mono HB.out.size))
      have Hx1 := Lib.hid (HX.out.below hb1 HX.out.inside)
      clear hb1 x0 x1 x2 x3 x4 x5 x6 x7 x8 x9 x10 x11 x12 x13
      have x0 := Hx1.out.here (i := 0) rfl; have x1 := Hx1.out.here (i := 1) rfl; have x2 := Hx1.out.here (i := 2) rfl; have x3 := Hx1.out.here (i := 3) rfl; have x4 := Hx1.out.here (i := 4) rfl; have x5 := Hx1.out.here (i := 5) rfl; have x6 := Hx1.out.here (i := 6) rfl; have x7 := Hx1.out.here (i := 7) rfl; have x8 := Hx1.out.here (i := 8) rfl; have x9 := Hx1.out.here (i := 9) rfl; have x10 := Hx1.out.here (i := 10) rfl; have x11 := Hx1.out.here (i := 11) rfl; have x12 := Hx1.out.here (i := 12) rfl; have x13 := Hx1.out.here (i := 13) rfl
      go_wp2_with fail
      refine (HC.out _).mono ?_
      rintro e w2 ⟨rfl, hb2⟩
      have HB2 := Lib.hid (HB1.out.trans (hb2.mono HB1.out.size))
      have Hx2 := Lib.hid (Hx1.out.below hb2 Hx1.out.inside)
      clear hb2 x0 x1 x2 x3 x4 x5 x6 x7 x8 x9 x10 x11 x12 x13
      have x0 := Hx2.out.here (i := 0) rfl; have x1 := Hx2.out.here (i := 1) rfl; have x2 := Hx2.out.here (i := 2) rfl; have x3 := Hx2.out.here (i := 3) rfl; have x4 := Hx2.out.here (i := 4) rfl; have x5 := Hx2.out.here (i := 5) rfl; have x6 := Hx2.out.here (i := 6) rfl; have x7 := Hx2.out.here (i := 7) rfl; have x8 := Hx2.out.here (i := 8) rfl; have x9 := Hx2.out.here (i := 9) rfl; have x10 := Hx2.out.here (i := 10) rfl; have x11 := Hx2.out.here (i := 11) rfl; have x12 := Hx2.out.here (i := 12) rfl; have x13 := Hx2.out.here (i := 13) rfl
      go_wp2_with fail
      refine (HO.out _).mono ?_
      rintro e w3 ⟨rfl, hb3⟩
      have HB3 := Lib.hid (HB2.out.trans (hb3.mono HB2.out.size))
      have Hx3 := Lib.hid (Hx2.out.below hb3 Hx2.out.inside)
      clear hb3 x0 x1 x2 x3 x4 x5 x6 x7 x8 x9 x10 x11 x12 x13
      have x0 := Hx3.out.here (i := 0) rfl; have x1 := Hx3.out.here (i := 1) rfl; have x2 := Hx3.out.here (i := 2) rfl; have x3 := Hx3.out.here (i := 3) rfl; have x4 := Hx3.out.here (i := 4) rfl; have x5 := Hx3.out.here (i := 5) rfl; have x6 := Hx3.out.here (i := 6) rfl; have x7 := Hx3.out.here (i := 7) rfl; have x8 := Hx3.out.here (i := 8) rfl; have x9 := Hx3.out.here (i := 9) rfl; have x10 := Hx3.out.here (i := 10) rfl; have x11 := Hx3.out.here (i := 11) rfl; have x12 := Hx3.out.here (i := 12) rfl; have x13 := Hx3.out.here (i := 13) rfl
      go_wp2_with fail
      refine (HW.out _).mono ?_
      rintro e w4 ⟨rfl, hb4⟩
      have HB4 := Lib.hid (HB3.out.trans (hb4.mono HB3.out.size))
      have Hx4 := Lib.hid (Hx3.out.below hb4 Hx3.out.inside)
      clear hb4 x0 x1 x2 x3 x4 x5 x6 x7 x8 x9 x10 x11 x12 x13
      have x0 := Hx4.out.here (i := 0) rfl; have x1 := Hx4.out.here (i := 1) rfl; have x2 := Hx4.out.here (i := 2) rfl; have x3 := Hx4.out.here (i := 3) rfl; have x4 := Hx4.out.here (i := 4) rfl; have x5 := Hx4.out.here (i := 5) rfl; have x6 := Hx4.out.here (i := 6) rfl; have x7 := Hx4.out.here (i := 7) rfl; have x8 := Hx4.out.here (i := 8) rfl; have x9 := Hx4.out.here (i := 9) rfl; have x10 := Hx4.out.here (i := 10) rfl; have x11 := Hx4.out.here (i := 11) rfl; have x12 := Hx4.out.here (i := 12) rfl; have x13 := Hx4.out.here (i := 13) rfl
      go_wp2_with fail
      refine (HR.out _).mono ?_
      rintro e w5 ⟨rfl, hb5⟩
      have HB5 := Lib.hid (HB4.out.trans (hb5.mono HB4.out.size))
      have Hx5 := Lib.hid (Hx4.out.below hb5 Hx4.out.inside)
      clear hb5 x0 x1 x2 x3 x4 x5 x6 x7 x8 x9 x10 x11 x12 x13
      have x0 := Hx5.out.here (i := 0) rfl; have x1 := Hx5.out.here (i := 1) rfl; have x2 := Hx5.out.here (i := 2) rfl; have x3 := Hx5.out.here (i := 3) rfl; have x4 := Hx5.out.here (i := 4) rfl; have x5 := Hx5.out.here (i := 5) rfl; have x6 := Hx5.out.here (i := 6) rfl; have x7 := Hx5.out.here (i := 7) rfl; have x8 := Hx5.out.here (i := 8) rfl; have x9 := Hx5.out.here (i := 9) rfl; have x10 := Hx5.out.here (i := 10) rfl; have x11 := Hx5.out.here (i := 11) rfl; have x12 := Hx5.out.here (i := 12) rfl; have x13 := Hx5.out.here (i := 13) rfl
      go_wp2_with fail
      refine (HI.out _).mono ?_
      rintro e w6 ⟨rfl, hb6⟩
      have HB6 := Lib.hid (HB5.out.trans (hb6.mono HB5.out.size))
      have Hx6 := Lib.hid (Hx5.out.below hb6 Hx5.out.inside)
      clear hb6 x0 x1 x2 x3 x4 x5 x6 x7 x8 x9 x10 x11 x12 x13
      have x0 := Hx6.out.here (i := 0) rfl; have x1 := Hx6.out.here (i := 1) rfl; have x2 := Hx6.out.here (i := 2) rfl; have x3 := Hx6.out.here (i := 3) rfl; have x4 := Hx6.out.here (i := 4) rfl; have x5 := Hx6.out.here (i := 5) rfl; have x6 := Hx6.out.here (i := 6) rfl; have x7 := Hx6.out.here (i := 7) rfl; have x8 := Hx6.out.here (i := 8) rfl; have x9 := Hx6.out.here (i := 9) rfl; have x10 := Hx6.out.here (i := 10) rfl; have x11 := Hx6.out.here (i := 11) rfl; have x12 := Hx6.out.here (i := 12) rfl; have x13 := Hx6.out.here (i := 13) rfl
      go_wp2_with fail
      refine (HE.out _).mono ?_
      rintro e w7 ⟨rfl, hb7⟩
      have HB7 := Lib.hid (HB6.out.trans (hb7.mono HB6.out.size))
      have Hx7 := Lib.hid (Hx6.out.below hb7 Hx6.out.inside)
      clear hb7 x0 x1 x2 x3 x4 x5 x6 x7 x8 x9 x10 x11 x12 x13
      have x0 := Hx7.out.here (i := 0) rfl; have x1 := Hx7.out.here (i := 1) rfl; have x2 := Hx7.out.here (i := 2) rfl; have x3 := Hx7.out.here (i := 3) rfl; have x4 := Hx7.out.here (i := 4) rfl; have x5 := Hx7.out.here (i := 5) rfl; have x6 := Hx7.out.here (i := 6) rfl; have x7 := Hx7.out.here (i := 7) rfl; have x8 := Hx7.out.here (i := 8) rfl; have x9 := Hx7.out.here (i := 9) rfl; have x10 := Hx7.out.here (i := 10) rfl; have x11 := Hx7.out.here (i := 11) rfl; have x12 := Hx7.out.here (i := 12) rfl; have x13 := Hx7.out.here (i := 13) rfl
      go_wp2_with fail
      go_ret
      exact ⟨rfl, HB7.out⟩
    · have hse : spanInE ⟨ai, ah, ad, am, aw, aa, ab⟩ ⟨bi, bh, bd, bm, bw, ba, bb⟩ sec shift = 1 := by unfold spanInE; rw [if_pos hok, if_neg hot]
      have h1 : spanInB ⟨ai, ah, ad, am, aw, aa, ab⟩ ⟨bi, bh, bd, bm, bw, ba, bb⟩ sec shift = false := by unfold spanInB; rw [if_neg (fun h => hot h.2)]
      have h2 : edgeN ⟨ai, ah, ad, am, aw, aa, ab⟩ ⟨bi, bh, bd, bm, bw, ba, bb⟩ sec shift = 0 := by unfold edgeN; rw [if_neg (fun h => hot h.2)]
      have h3 : edgeB ⟨ai, ah, ad, am, aw, aa, ab⟩ ⟨bi, bh, bd, bm, bw, ba, bb⟩ sec shift = false := by unfold edgeB; rw [if_neg (fun h => hot h.2)]
      have HO := Lib.hid (fun (W : World) => refOf_no sec shift W hot)
      rw [hok] at HS HC
      rw [hse, h1] at HI
      rw [hse, h2, h3] at HE
      clear hok hot hse ha hb h1 h2 h3
      have x0 := HX.out.here (i := 0) rfl; have x1 := HX.out.here (i := 1) rfl; have x2 := HX.out.here (i := 2) rfl; have x3 := HX.out.here (i := 3) rfl; have x4 := HX.out.here (i := 4) rfl; have x5 := HX.out.here (i := 5) rfl; have x6 := HX.out.here (i := 6) rfl; have x7 := HX.out.here (i := 7) rfl; have x8 := HX.out.here (i := 8) rfl; have x9 := HX.out.here (i := 9) rfl; have x10 := HX.out.here (i := 10) rfl; have x11 := HX.out.here (i := 11) rfl; have x12 := HX.out.here (i := 12) rfl; have x13 := HX.out.here (i := 13) rfl
      go_enter Try.func7, Try.ntmps7
      go_wp2_with fail
      refine (HS.out _).mono ?_
      rintro e w1 ⟨rfl, hb1⟩
      have HB1 := Lib.hid (HB.out.trans (hb1.mono HB.out.size))
      have Hx1 := Lib.hid (HX.out.below hb1 HX.out.inside)
      clear hb1 x0 x1 x2 x3 x4 x5 x6 x7 x8 x9 x10 x11 x12 x13
      have x0 := Hx1.out.here (i := 0) rfl; have x1 := Hx1.out.here (i := 1) rfl; have x2 := Hx1.out.here (i := 2) rfl; have x3 := Hx1.out.here (i := 3) rfl; have x4 := Hx1.out.here (i := 4) rfl; have x5 := Hx1.out.here (i := 5) rfl; have x6 := Hx1.out.here (i := 6) rfl; have x7 := Hx1.out.here (i := 7) rfl; have x8 := Hx1.out.here (i := 8) rfl; have x9 := Hx1.out.here (i := 9) rfl; have x10 := Hx1.out.here (i := 10) rfl; have x11 := Hx1.out.here (i := 11) rfl; have x12 := Hx1.out.here (i := 12) rfl; have x13 := Hx1.out.here (i := 13) rfl
      go_wp2_with fail
      refine (HC.out _).mono ?_
      rintro e w2 ⟨rfl, hb2⟩
      have HB2 := Lib.hid (HB1.out.trans (hb2.mono HB1.out.size))
      have Hx2 := Lib.hid (Hx1.out.below hb2 Hx1.out.inside)
      clear hb2 x0 x1 x2 x3 x4 x5 x6 x7 x8 x9 x10 x11 x12 x13
      have x0 := Hx2.out.here (i := 0) rfl; have x1 := Hx2.out.here (i := 1) rfl; have x2 := Hx2.out.here (i := 2) rfl; have x3 := Hx2.out.here (i := 3) rfl; have x4 := Hx2.out.here (i := 4) rfl; have x5 := Hx2.out.here (i := 5) rfl; have x6 := Hx2.out.here (i := 6) rfl; have x7 := Hx2.out.here (i := 7) rfl; have x8 := Hx2.out.here (i := 8) rfl; have x9 := Hx2.out.here (i := 9) rfl; have x10 := Hx2.out.here (i := 10) rfl; have x11 := Hx2.out.here (i := 11) rfl; have x12 := Hx2.out.here (i := 12) rfl; have x13 := Hx2.out.here (i := 13) rfl
      go_wp2_with fail
      refine (HO.out _).mono ?_
      rintro e w3 ⟨rfl, hb3⟩
      have HB3 := Lib.hid (HB2.out.trans (hb3.mono HB2.out.size))
      have Hx3 := Lib.hid (Hx2.out.below hb3 Hx2.out.inside)
      clear hb3 x0 x1 x2 x3 x4 x5 x6 x7 x8 x9 x10 x11 x12 x13
      have x0 := Hx3.out.here (i := 0) rfl; have x1 := Hx3.out.here (i := 1) rfl; have x2 := Hx3.out.here (i := 2) rfl; have x3 := Hx3.out.here (i := 3) rfl; have x4 := Hx3.out.here (i := 4) rfl; have x5 := Hx3.out.here (i := 5) rfl; have x6 := Hx3.out.here (i := 6) rfl; have x7 := Hx3.out.here (i := 7) rfl; have x8 := Hx3.out.here (i := 8) rfl; have x9 := Hx3.out.here (i := 9) rfl; have x10 := Hx3.out.here (i := 10) rfl; have x11 := Hx3.out.here (i := 11) rfl; have x12 := Hx3.out.here (i := 12) rfl; have x13 := Hx3.out.here (i := 13) rfl
      go_wp2_with fail
      refine (HI.out _).mono ?_
      rintro e w4 ⟨rfl, hb4⟩
      have HB4 := Lib.hid (HB3.out.trans (hb4.mono HB3.out.size))
      have Hx4 := Lib.hid (Hx3.out.below hb4 Hx3.out.inside)
      clear hb4 x0 x1 x2 x3 x4 x5 x6 x7 x8 x9 x10 x11 x12 x13
      have x0 := Hx4.out.here (i := 0) rfl; have x1 := Hx4.out.here (i := 1) rfl; have x2 := Hx4.out.here (i := 2) rfl; have x3 := Hx4.out.here (i := 3) rfl; have x4 := Hx4.out.here (i := 4) rfl; have x5 := Hx4.out.here (i := 5) rfl; have x6 := Hx4.out.here (i := 6) rfl; have x7 := Hx4.out.here (i := 7) rfl; have x8 := Hx4.out.here (i := 8) rfl; have x9 := Hx4.out.here (i := 9) rfl; have x10 := Hx4.out.here (i := 10) rfl; have x11 := Hx4.out.here (i := 11) rfl; have x12 := Hx4.out.here (i := 12) rfl; have x13 := Hx4.out.here (i := 13) rfl
      go_wp2_with fail
      refine (HE.out _).mono ?_
      rintro e w5 ⟨rfl, hb5⟩
      have HB5 := Lib.hid (HB4.out.trans (hb5.mono HB4.out.size))
      have Hx5 := Lib.hid (Hx4.out.below hb5 Hx4.out.inside)
      clear hb5 x0 x1 x2 x3 x4 x5 x6 x7 x8 x9 x10 x11 x12 x13
      have x0 := Hx5.out.here (i := 0) rfl; have x1 := Hx5.out.here (i := 1) rfl; have x2 := Hx5.out.here (i := 2) rfl; have x3 := Hx5.out.here (i := 3) rfl; have x4 := Hx5.out.here (i := 4) rfl; have x5 := Hx5.out.here (i := 5) rfl; have x6 := Hx5.out.here (i := 6) rfl; have x7 := Hx5.out.here (i := 7) rfl; have x8 := Hx5.out.here (i := 8) rfl; have x9 := Hx5.out.here (i := 9) rfl; have x10 := Hx5.out.here (i := 10) rfl; have x11 := Hx5.out.here (i := 11) rfl; have x12 := Hx5.out.here (i := 12) rfl; have x13 := Hx5.out.here (i := 13) rfl
      go_wp2_with fail
      go_ret
      exact ⟨rfl, HB5.out⟩
  · have hse1 : spanE ⟨ai, ah, ad, am, aw, aa, ab⟩ ⟨bi, bh, bd, bm, bw, ba, bb⟩ = 1 := by
      have h4 : spanE ⟨ai, ah, ad, am, aw, aa, ab⟩ ⟨bi, bh, bd, bm, bw, ba, bb⟩ = 0 ∨ spanE ⟨ai, ah, ad, am, aw, aa, ab⟩ ⟨bi, bh, bd, bm, bw, ba, bb⟩ = 1 := by unfold spanE Cr.err; cases Cr.ok ⟨ai, ah, ad, am, aw, aa, ab⟩ <;> cases Cr.ok ⟨bi, bh, bd, bm, bw, ba, bb⟩ <;> simp
      rcases h4 with h4 | h4
      · exact absurd h4 hok
      · exact h4
    have hse : spanInE ⟨ai, ah, ad, am, aw, aa, ab⟩ ⟨bi, bh, bd, bm, bw, ba, bb⟩ sec shift = 1 := by unfold spanInE; rw [if_neg hok]
    have h1 : spanInB ⟨ai, ah, ad, am, aw, aa, ab⟩ ⟨bi, bh, bd, bm, bw, ba, bb⟩ sec shift = false := by unfold spanInB; rw [if_neg (fun h => hok h.1)]
    have h2 : edgeN ⟨ai, ah, ad, am, aw, aa, ab⟩ ⟨bi, bh, bd, bm, bw, ba, bb⟩ sec shift = 0 := by unfold edgeN; rw [if_neg (fun h => hok h.1)]
    have h3 : edgeB ⟨ai, ah, ad, am, aw, aa, ab⟩ ⟨bi, bh, bd, bm, bw, ba, bb⟩ sec shift = false := by unfold edgeB; rw [if_neg (fun h => hok h.1)]
    rw [hse1] at HS HC
    rw [hse, h1] at HI
    rw [hse, h2, h3] at HE
    clear hok hse hse1 ha hb h1 h2 h3
    have x0 := HX.out.here (i := 0) rfl; have x1 := HX.out.here (i := 1) rfl; have x2 := HX.out.here (i := 2) rfl; have x3 := HX.out.here (i := 3) rfl; have x4 := HX.out.here (i := 4) rfl; have x5 := HX.out.here (i := 5) rfl; have x6 := HX.out.here (i := 6) rfl; have x7 := HX.out.here (i := 7) rfl; have x8 := HX.out.here (i := 8) rfl; have x9 := HX.out.here (i := 9) rfl; have x10 := HX.out.here (i := 10) rfl; have x11 := HX.out.here (i := 11) rfl; have x12 := HX.out.here (i := 12) rfl; have x13 := HX.out.here (i := 13) rfl
    go_enter Try.func7, Try.ntmps7
    go_wp2_with fail
    refine (HS.out _).mono ?_
    rintro e w1 ⟨rfl, hb1⟩
    have HB1 := Lib.hid (HB.out.trans (hb1.mono HB.out.size))
    have Hx1 := Lib.hid (HX.out.below hb1 HX.out.inside)
    clear hb1 x0 x1 x2 x3 x4 x5 x6 x7 x8 x9 x10 x11 x12 x13
    have x0 := Hx1.out.here (i := 0) rfl; have x1 := Hx1.out.here (i := 1) rfl; have x2 := Hx1.out.here (i := 2) rfl; have x3 := Hx1.out.here (i := 3) rfl; have x4 := Hx1.out.here (i := 4) rfl; have x5 := Hx1.out.here (i := 5) rfl; have x6 := Hx1.out.here (i := 6) rfl; have x7 := Hx1.out.here (i := 7) rfl; have x8 := Hx1.out.here (i := 8) rfl; have x9 := Hx1.out.here (i := 9) rfl; have x10 := Hx1.out.here (i := 10) rfl; have x11 := Hx1.out.here (i := 11) rfl; have x12 := Hx1.out.here (i := 12) rfl; have x13 := Hx1.out.here (i := 13) rfl
    go_wp2_with fail
    refine (HC.out _).mono ?_
    rintro e w2 ⟨rfl, hb2⟩
    have HB2 := Lib.hid (HB1.out.trans (hb2.mono HB1.out.size))
    have Hx2 := Lib.hid (Hx1.out.below hb2 Hx1.out.inside)
    clear hb2 x0 x1 x2 x3 x4 x5 x6 x7 x8 x9 x10 x11 x12 x13
    have x0 := Hx2.out.here (i := 0) rfl; have x1 := Hx2.out.here (i := 1) rfl; have x2 := Hx2.out.here (i := 2) rfl; have x3 := Hx2.out.here (i := 3) rfl; have x4 := Hx2.out.here (i := 4) rfl; have x5 := Hx2.out.here (i := 5) rfl; have x6 := Hx2.out.here (i := 6) rfl; have x7 := Hx2.out.here (i := 7) rfl; have x8 := Hx2.out.here (i := 8) rfl; have x9 := Hx2.out.here (i := 9) rfl; have x10 := Hx2.out.here (i := 10) rfl; have x11 := Hx2.out.here (i := 11) rfl; have x12 := Hx2.out.here (i := 12) rfl; have x13 := Hx2.out.here (i := 13) rfl
    go_wp2_with fail
    refine (HI.out _).mono ?_
    rintro e w3 ⟨rfl, hb3⟩
    have HB3 := Lib.hid (HB2.out.trans (hb3.mono HB2.out.size))
    have Hx3 := Lib.hid (Hx2.out.below hb3 Hx2.out.inside)
    clear hb3 x0 x1 x2 x3 x4 x5 x6 x7 x8 x9 x10 x11 x12 x13
    have x0 := Hx3.out.here (i := 0) rfl; have x1 := Hx3.out.here (i := 1) rfl; have x2 := Hx3.out.here (i := 2) rfl; have x3 := Hx3.out.here (i := 3) rfl; have x4 := Hx3.out.here (i := 4) rfl; have x5 := Hx3.out.here (i := 5) rfl; have x6 := Hx3.out.here (i := 6) rfl; have x7 := Hx3.out.here (i := 7) rfl; have x8 := Hx3.out.here (i := 8) rfl; have x9 := Hx3.out.here (i := 9) rfl; have x10 := Hx3.out.here (i := 10) rfl; have x11 := Hx3.out.here (i := 11) rfl; have x12 := Hx3.out.here (i := 12) rfl; have x13 := Hx3.out.here (i := 13) rfl
    go_wp2_with fail
    refine (HE.out _).mono ?_
    rintro e w4 ⟨rfl, hb4⟩
    have HB4 := Lib.hid (HB3.out.trans (hb4.mono HB3.out.size))
    have Hx4 := Lib.hid (Hx3.out.below hb4 Hx3.out.inside)
    clear hb4 x0 x1 x2 x3 x4 x5 x6 x7 x8 x9 x10 x11 x12 x13
    have x0 := Hx4.out.here (i := 0) rfl; have x1 := Hx4.out.here (i := 1) rfl; have x2 := Hx4.out.here (i := 2) rfl; have x3 := Hx4.out.here (i := 3) rfl; have x4 := Hx4.out.here (i := 4) rfl; have x5 := Hx4.out.here (i := 5) rfl; have x6 := Hx4.out.here (i := 6) rfl; have x7 := Hx4.out.here (i := 7) rfl; have x8 := Hx4.out.here (i := 8) rfl; have x9 := Hx4.out.here (i := 9) rfl; have x10 := Hx4.out.here (i := 10) rfl; have x11 := Hx4.out.here (i := 11) rfl; have x12 := Hx4.out.here (i := 12) rfl; have x13 := Hx4.out.here (i := 13) rfl
    go_wp2_with fail
    go_ret
    exact ⟨rfl, HB4.out⟩
end Go.Proofs.Ytikjefghpnffkaa
