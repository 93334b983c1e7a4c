/- The contract of the reference's Span, alone. -/
import Derived.Test.YthelnkoohbnjpaaDoorSekD
import Derived.Test.YthelnkoohbnjpaaDoorZSpan
set_option linter.unusedVariables false
set_option linter.unusedSimpArgs false
namespace Go.Proofs.YthelnkoohbnjpaaDoor
open Go.RowKit
set_option linter.unusedVariables false
set_option maxRecDepth 100000 in
set_option maxHeartbeats 1600000 in
theorem refSpanS (ai ah ad am aw bi bh bd bm bw : Nat) (aa ab ba bb : Bool) (ha : Cr.fits ⟨ai, ah, ad, am, aw, aa, ab⟩) (hb : Cr.fits ⟨bi, bh, bd, bm, bw, ba, bb⟩) (w : World) : Calls Tryd.prog 41 #[.agg #[.int .u64 (ai : Int), .int .u64 (ah : Int), .int .u64 (ad : Int), .int .u64 (am : Int), .int .u64 (aw : Int), .bool aa, .bool ab, .int .u64 (bi : Int), .int .u64 (bh : Int), .int .u64 (bd : Int), .int .u64 (bm : Int), .int .u64 (bw : Int), .bool ba, .bool bb]] w fun e w' => e = .returned (.int .i64 (spanE ⟨ai, ah, ad, am, aw, aa, ab⟩ ⟨bi, bh, bd, bm, bw, ba, bb⟩)) ∧ Below w.heap.size w w' := by
  have HCa := Lib.hid ha; have HCb := Lib.hid hb
  have HB := Lib.hid ((Below.refl w.heap.size w).alloc (Nat.le_refl _) (.cells #[.int .u64 (ai : Int), .int .u64 (ah : Int), .int .u64 (ad : Int), .int .u64 (am : Int), .int .u64 (aw : Int), .bool aa, .bool ab, .int .u64 (bi : Int), .int .u64 (bh : Int), .int .u64 (bd : Int), .int .u64 (bm : Int), .int .u64 (bw : Int), .bool ba, .bool bb] 80))
  have HX := Lib.hid (Tide.At.made w 80 #[.int .u64 (ai : Int), .int .u64 (ah : Int), .int .u64 (ad : Int), .int .u64 (am : Int), .int .u64 (aw : Int), .bool aa, .bool ab, .int .u64 (bi : Int), .int .u64 (bh : Int), .int .u64 (bd : Int), .int .u64 (bm : Int), .int .u64 (bw : Int), .bool ba, .bool bb])
  clear ha hb
  have he : (Cr.err ⟨ai, ah, ad, am, aw, aa, ab⟩ = 0 ∧ spanE ⟨ai, ah, ad, am, aw, aa, ab⟩ ⟨bi, bh, bd, bm, bw, ba, bb⟩ = Cr.err ⟨bi, bh, bd, bm, bw, ba, bb⟩) ∨ (Cr.err ⟨ai, ah, ad, am, aw, aa, ab⟩ = 1 ∧ spanE ⟨ai, ah, ad, am, aw, aa, ab⟩ ⟨bi, bh, bd, bm, bw, ba, bb⟩ = 1) := by
    unfold spanE
    cases hok : Cr.ok ⟨ai, ah, ad, am, aw, aa, ab⟩
    · right; exact ⟨Cr.err_no hok, rfl⟩
    · left; exact ⟨Cr.err_yes hok, rfl⟩
  obtain ⟨R, hR⟩ : ∃ R, spanE ⟨ai, ah, ad, am, aw, aa, ab⟩ ⟨bi, bh, bd, bm, bw, ba, bb⟩ = R := ⟨_, rfl⟩
  rw [hR] at he ⊢
  have HE := Lib.hid he
  clear he hR
  have z0 := HX.out.here (i := 0) rfl; have z1 := HX.out.here (i := 1) rfl; have z2 := HX.out.here (i := 2) rfl; have z3 := HX.out.here (i := 3) rfl; have z4 := HX.out.here (i := 4) rfl; have z5 := HX.out.here (i := 5) rfl; have z6 := HX.out.here (i := 6) rfl; have z7 := HX.out.here (i := 7) rfl; have z8 := HX.out.here (i := 8) rfl; have z9 := HX.out.here (i := 9) rfl; have z10 := HX.out.here (i := 10) rfl; have z11 := HX.out.here (i := 11) rfl; have z12 := HX.out.here (i := 12) rfl; have z13 := HX.out.here (i := 13) rfl
  go_enter Tryd.func41, Tryd.ntmps41
  go_wp2_with fail
  refine (refCron ⟨ai, ah, ad, am, aw, aa, ab⟩ HCa.out _).mono ?_
  rintro e w1 ⟨rfl, hb1⟩
  have HB1 := Lib.hid (HB.out.trans (hb1.mono HB.out.size))
  have HX1 := Lib.hid (HX.out.below hb1 HX.out.inside)
  clear hb1 z0 z1 z2 z3 z4 z5 z6 z7 z8 z9 z10 z11 z12 z13
  rcases HE.out with ⟨h1, h2⟩ | ⟨h1, h2⟩
  · rw [h1]
    subst h2
    clear h1
    have y0 := HX1.out.here (i := 7) rfl; have y1 := HX1.out.here (i := 8) rfl; have y2 := HX1.out.here (i := 9) rfl; have y3 := HX1.out.here (i := 10) rfl; have y4 := HX1.out.here (i := 11) rfl; have y5 := HX1.out.here (i := 12) rfl; have y6 := HX1.out.here (i := 13) rfl
    go_wp2_with fail
    refine (refCron ⟨bi, bh, bd, bm, bw, ba, bb⟩ HCb.out _).mono ?_
    rintro e w2 ⟨rfl, hb2⟩
    have HF := Lib.hid (HB1.out.trans (hb2.mono HB1.out.size))
    clear hb2 y0 y1 y2 y3 y4 y5 y6
    go_wp2_with fail
    go_ret
    exact ⟨rfl, HF.out⟩
  · rw [h1]
    subst h2
    clear h1
    go_wp2_with fail
    go_ret
    exact ⟨rfl, HB1.out⟩
end Go.Proofs.YthelnkoohbnjpaaDoor
