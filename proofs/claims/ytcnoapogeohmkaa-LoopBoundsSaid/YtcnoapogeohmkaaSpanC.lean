/- The contracts of span.Check and span.In. -/
import Derived.Test.YtcnoapogeohmkaaCronY
set_option linter.unusedVariables false
set_option linter.unusedSimpArgs false
namespace Go.Proofs.Ytcnoapogeohmkaa
open Go.RowKit
set_option linter.unusedVariables false
def spanE (a b : Cr) : Int := if a.ok then b.err else 1
def spanInB (a b : Cr) (sec shift : Int) : Bool := if spanE a b = 0 ∧ okTime sec shift then a.seekB sec shift (-1) && (!(b.seekB sec shift (-1)) || decide (b.seekN sec shift (-1) ≤ a.seekN sec shift (-1))) else false
def spanInE (a b : Cr) (sec shift : Int) : Int := if spanE a b = 0 then (if okTime sec shift then 0 else 1) else 1
set_option maxRecDepth 100000 in
set_option maxHeartbeats 1600000 in
theorem spanCheck (ai ah ad am aw bi bh bd bm bw : Nat) (aa ab ba bb : Bool) (ha : Cr.fits ⟨ai, ah, ad, am, aw, aa, ab⟩) (hb : Cr.fits ⟨bi, bh, bd, bm, bw, ba, bb⟩) (w : World) : Calls Try.prog 58 #[.agg #[.int .u64 (ai : Int), .int .u64 (ah : Int), .int .u64 (ad : Int), .int .u64 (am : Int), .int .u64 (aw : Int), .bool aa, .bool ab, .int .u64 (bi : Int), .int .u64 (bh : Int), .int .u64 (bd : Int), .int .u64 (bm : Int), .int .u64 (bw : Int), .bool ba, .bool bb]] w fun e w' => e = .returned (.int .i64 (spanE ⟨ai, ah, ad, am, aw, aa, ab⟩ ⟨bi, bh, bd, bm, bw, ba, bb⟩)) ∧ Below w.heap.size w w' := by
  have HCa := Lib.hid ha; have HCb := Lib.hid hb
  have HB := Lib.hid ((Below.refl w.heap.size w).alloc (Nat.le_refl _) (.cells #[.int .u64 (ai : Int), .int .u64 (ah : Int), .int .u64 (ad : Int), .int .u64 (am : Int), .int .u64 (aw : Int), .bool aa, .bool ab, .int .u64 (bi : Int), .int .u64 (bh : Int), .int .u64 (bd : Int), .int .u64 (bm : Int), .int .u64 (bw : Int), .bool ba, .bool bb] 63))
  have HX := Lib.hid (Tide.At.made w 63 #[.int .u64 (ai : Int), .int .u64 (ah : Int), .int .u64 (ad : Int), .int .u64 (am : Int), .int .u64 (aw : Int), .bool aa, .bool ab, .int .u64 (bi : Int), .int .u64 (bh : Int), .int .u64 (bd : Int), .int .u64 (bm : Int), .int .u64 (bw : Int), .bool ba, .bool bb])
  clear ha hb
  cases hok : Cr.ok ⟨ai, ah, ad, am, aw, aa, ab⟩
  · have he : Cr.err ⟨ai, ah, ad, am, aw, aa, ab⟩ = 1 := Cr.err_no hok
    have HE := Lib.hid (show spanE ⟨ai, ah, ad, am, aw, aa, ab⟩ ⟨bi, bh, bd, bm, bw, ba, bb⟩ = 1 by unfold spanE; rw [if_neg (by rw [hok]; simp)])
    clear hok
    go_enter Try.func58, Try.ntmps58
    go_wp2_with fail
    refine (cronCheck ⟨ai, ah, ad, am, aw, aa, ab⟩ HCa.out _).mono ?_
    rintro e w1 ⟨rfl, hb1⟩
    rw [he]
    have HF := Lib.hid (HB.out.trans (hb1.mono HB.out.size))
    clear hb1
    go_wp2_with fail
    go_ret
    exact ⟨by rw [HE.out] <;> rfl, HF.out⟩
  · have he : Cr.err ⟨ai, ah, ad, am, aw, aa, ab⟩ = 0 := Cr.err_yes hok
    have HE := Lib.hid (show spanE ⟨ai, ah, ad, am, aw, aa, ab⟩ ⟨bi, bh, bd, bm, bw, ba, bb⟩ = Cr.err ⟨bi, bh, bd, bm, bw, ba, bb⟩ by unfold spanE; rw [if_pos hok])
    clear hok
    go_enter Try.func58, Try.ntmps58
    go_wp2_with fail
    refine (cronCheck ⟨ai, ah, ad, am, aw, aa, ab⟩ HCa.out _).mono ?_
    rintro e w1 ⟨rfl, hb1⟩
    rw [he]
    have HB1 := Lib.hid (HB.out.trans (hb1.mono HB.out.size))
    have HX1 := Lib.hid (HX.out.below hb1 HX.out.inside)
    clear hb1
    have y0 := HX1.out.here (i := 7) rfl; have y1 := HX1.out.here (i := 8) rfl; have y2 := HX1.out.here (i := 9) rfl; have y3 := HX1.out.here (i := 10) rfl; have y4 := HX1.out.here (i := 11) rfl; have y5 := HX1.out.here (i := 12) rfl; have y6 := HX1.out.here (i := 13) rfl
    go_wp2_with fail
    refine (cronCheck ⟨bi, bh, bd, bm, bw, ba, bb⟩ HCb.out _).mono ?_
    rintro e w2 ⟨rfl, hb2⟩
    have HF := Lib.hid (HB1.out.trans (hb2.mono HB1.out.size))
    clear hb2 y0 y1 y2 y3 y4 y5 y6
    go_wp2_with fail
    go_ret
    exact ⟨by rw [HE.out] <;> rfl, HF.out⟩
set_option maxRecDepth 100000 in
set_option maxHeartbeats 3200000 in
theorem spanIn (ai ah ad am aw bi bh bd bm bw : Nat) (aa ab ba bb : Bool) (ha : Cr.fits ⟨ai, ah, ad, am, aw, aa, ab⟩) (hb : Cr.fits ⟨bi, bh, bd, bm, bw, ba, bb⟩) (sec shift : Int) (w : World) : Calls Try.prog 60 #[.agg #[.int .u64 (ai : Int), .int .u64 (ah : Int), .int .u64 (ad : Int), .int .u64 (am : Int), .int .u64 (aw : Int), .bool aa, .bool ab, .int .u64 (bi : Int), .int .u64 (bh : Int), .int .u64 (bd : Int), .int .u64 (bm : Int), .int .u64 (bw : Int), .bool ba, .bool bb], .int .i64 sec, .int .i64 shift] w fun e w' => e = .returned (.tuple #[.bool (spanInB ⟨ai, ah, ad, am, aw, aa, ab⟩ ⟨bi, bh, bd, bm, bw, ba, bb⟩ sec shift), .int .i64 (spanInE ⟨ai, ah, ad, am, aw, aa, ab⟩ ⟨bi, bh, bd, bm, bw, ba, bb⟩ sec shift)]) ∧ Below w.heap.size w w' := by
  have HCa := Lib.hid ha; have HCb := Lib.hid hb
  have HB := Lib.hid ((Below.refl w.heap.size w).alloc (Nat.le_refl _) (.cells #[.int .u64 (ai : Int), .int .u64 (ah : Int), .int .u64 (ad : Int), .int .u64 (am : Int), .int .u64 (aw : Int), .bool aa, .bool ab, .int .u64 (bi : Int), .int .u64 (bh : Int), .int .u64 (bd : Int), .int .u64 (bm : Int), .int .u64 (bw : Int), .bool ba, .bool bb] 63))
  have HX := Lib.hid (Tide.At.made w 63 #[.int .u64 (ai : Int), .int .u64 (ah : Int), .int .u64 (ad : Int), .int .u64 (am : Int), .int .u64 (aw : Int), .bool aa, .bool ab, .int .u64 (bi : Int), .int .u64 (bh : Int), .int .u64 (bd : Int), .int .u64 (bm : Int), .int .u64 (bw : Int), .bool ba, .bool bb])
  have HCk := Lib.hid (fun (W : World) => spanCheck ai ah ad am aw bi bh bd bm bw aa ab ba bb ha hb W)
  clear ha hb
  by_cases hE : spanE ⟨ai, ah, ad, am, aw, aa, ab⟩ ⟨bi, bh, bd, bm, bw, ba, bb⟩ = 0
  case neg =>
    have hE1 : spanE ⟨ai, ah, ad, am, aw, aa, ab⟩ ⟨bi, bh, bd, bm, bw, ba, bb⟩ = 1 := by unfold spanE Cr.err at hE ⊢; split at hE <;> (try split at hE) <;> simp_all
    have H1 := Lib.hid (show spanInB ⟨ai, ah, ad, am, aw, aa, ab⟩ ⟨bi, bh, bd, bm, bw, ba, bb⟩ sec shift = false by unfold spanInB; rw [if_neg (fun h => hE h.1)])
    have H2 := Lib.hid (show spanInE ⟨ai, ah, ad, am, aw, aa, ab⟩ ⟨bi, bh, bd, bm, bw, ba, bb⟩ sec shift = 1 by unfold spanInE; rw [if_neg hE])
    clear hE
    go_enter Try.func60, Try.ntmps60
    go_wp2_with fail
    refine (HCk.out _).mono ?_
    rintro e w1 ⟨rfl, hb1⟩
    rw [hE1]
    have HF := Lib.hid (HB.out.trans (hb1.mono HB.out.size))
    clear hb1
    go_wp2_with fail
    go_ret2
    exact ⟨by rw [H1.out, H2.out] <;> rfl, HF.out⟩
  have hoa : Cr.ok ⟨ai, ah, ad, am, aw, aa, ab⟩ = true := by unfold spanE at hE; split at hE; assumption; cases hE
  go_enter Try.func60, Try.ntmps60
  go_wp2_with fail
  refine (HCk.out _).mono ?_
  rintro e w1 ⟨rfl, hb1⟩
  rw [hE]
  have HB1 := Lib.hid (HB.out.trans (hb1.mono HB.out.size))
  have HX1 := Lib.hid (HX.out.below hb1 HX.out.inside)
  clear hb1
  have z0 := HX1.out.here (i := 0) rfl; have z1 := HX1.out.here (i := 1) rfl; have z2 := HX1.out.here (i := 2) rfl; have z3 := HX1.out.here (i := 3) rfl; have z4 := HX1.out.here (i := 4) rfl; have z5 := HX1.out.here (i := 5) rfl; have z6 := HX1.out.here (i := 6) rfl
  go_wp2_with fail
  refine (cronLast ⟨ai, ah, ad, am, aw, aa, ab⟩ HCa.out sec shift _).mono ?_
  rintro e w2 ⟨rfl, hb2⟩
  have HB2 := Lib.hid (HB1.out.trans (hb2.mono HB1.out.size))
  have HX2 := Lib.hid (HX1.out.below hb2 HX1.out.inside)
  clear hb2 z0 z1 z2 z3 z4 z5 z6
  by_cases hot : okTime sec shift
  case neg =>
    have he : Cr.seekE ⟨ai, ah, ad, am, aw, aa, ab⟩ sec shift = 1 := by unfold Cr.seekE; rw [if_pos hoa, if_neg hot]
    have H1 := Lib.hid (show spanInB ⟨ai, ah, ad, am, aw, aa, ab⟩ ⟨bi, bh, bd, bm, bw, ba, bb⟩ sec shift = false by unfold spanInB; rw [if_neg (fun h => hot h.2)])
    have H2 := Lib.hid (show spanInE ⟨ai, ah, ad, am, aw, aa, ab⟩ ⟨bi, bh, bd, bm, bw, ba, bb⟩ sec shift = 1 by unfold spanInE; rw [if_pos hE, if_neg hot])
    rw [he]
    clear he hot hE hoa
    go_wp2_with fail
    go_ret2
    exact ⟨by rw [H1.out, H2.out] <;> rfl, HB2.out⟩
  have he : Cr.seekE ⟨ai, ah, ad, am, aw, aa, ab⟩ sec shift = 0 := by unfold Cr.seekE; rw [if_pos hoa, if_pos hot]
  have H1 := Lib.hid (show spanInB ⟨ai, ah, ad, am, aw, aa, ab⟩ ⟨bi, bh, bd, bm, bw, ba, bb⟩ sec shift = (Cr.seekB ⟨ai, ah, ad, am, aw, aa, ab⟩ sec shift (-1) && (!(Cr.seekB ⟨bi, bh, bd, bm, bw, ba, bb⟩ sec shift (-1)) || decide (Cr.seekN ⟨bi, bh, bd, bm, bw, ba, bb⟩ sec shift (-1) ≤ Cr.seekN ⟨ai, ah, ad, am, aw, aa, ab⟩ sec shift (-1)))) by unfold spanInB; rw [if_pos ⟨hE, hot⟩])
  have H2 := Lib.hid (show spanInE ⟨ai, ah, ad, am, aw, aa, ab⟩ ⟨bi, bh, bd, bm, bw, ba, bb⟩ sec shift = 0 by unfold spanInE; rw [if_pos hE, if_pos hot])
  rw [he]
  clear he hot hE hoa
  have y0 := HX2.out.here (i := 7) rfl; have y1 := HX2.out.here (i := 8) rfl; have y2 := HX2.out.here (i := 9) rfl; have y3 := HX2.out.here (i := 10) rfl; have y4 := HX2.out.here (i := 11) rfl; have y5 := HX2.out.here (i := 12) rfl; have y6 := HX2.out.here (i := 13) rfl
  generalize Cr.seekN ⟨ai, ah, ad, am, aw, aa, ab⟩ sec shift (-1) = na at H1 ⊢
  generalize Cr.seekB ⟨ai, ah, ad, am, aw, aa, ab⟩ sec shift (-1) = ba' at H1 ⊢
  go_wp2_with fail
  refine (cronLast ⟨bi, bh, bd, bm, bw, ba, bb⟩ HCb.out sec shift _).mono ?_
  rintro e w3 ⟨rfl, hb3⟩
  have HF := Lib.hid (HB2.out.trans (hb3.mono HB2.out.size))
  clear hb3 y0 y1 y2 y3 y4 y5 y6
  generalize Cr.seekN ⟨bi, bh, bd, bm, bw, ba, bb⟩ sec shift (-1) = nb at H1 ⊢
  generalize Cr.seekB ⟨bi, bh, bd, bm, bw, ba, bb⟩ sec shift (-1) = bb' at H1 ⊢
  cases ba' <;> cases bb'
  all_goals
    go_wp2_with fail
    go_ret2
    exact ⟨by rw [H1.out, H2.out] <;> rfl, HF.out⟩
end Go.Proofs.Ytcnoapogeohmkaa
