/- The contracts of the reference's Span, Within and Edge. -/
import Derived.Test.YtcnoapogeohmkaaSekL
import Derived.Test.YtcnoapogeohmkaaZCrp
set_option linter.unusedVariables false
set_option linter.unusedSimpArgs false
namespace Go.Proofs.Ytcnoapogeohmkaa
open Go.RowKit
set_option linter.unusedVariables false
/-- what Seek answers, of a right cron and time, as numbers -/
theorem refNext (c : Cr) (hf : c.fits) (sec shift : Int) (w : World) (hot : okTime sec shift) (hok : c.ok = true) :
    Calls Try.prog 71 #[.agg c.cells, .int .i64 sec, .int .i64 shift, .int .i64 1] w fun e w' => e = .returned (.tuple #[.int .i64 (c.seekN sec shift 1), .bool (c.seekB sec shift 1)]) ∧ Below w.heap.size w w' := by
  rw [← found_same (.inl rfl) hot hok]; exact refSeekUp c hf sec shift w hot
theorem refLast (c : Cr) (hf : c.fits) (sec shift : Int) (w : World) (hot : okTime sec shift) (hok : c.ok = true) :
    Calls Try.prog 71 #[.agg c.cells, .int .i64 sec, .int .i64 shift, .int .i64 (-1)] w fun e w' => e = .returned (.tuple #[.int .i64 (c.seekN sec shift (-1)), .bool (c.seekB sec shift (-1))]) ∧ Below w.heap.size w w' := by
  rw [← found_same (.inr rfl) hot hok]; exact refSeekDn c hf sec shift w hot
set_option maxRecDepth 100000 in
set_option maxHeartbeats 1600000 in
theorem refSpan (ai ah ad am aw bi bh bd bm bw : Nat) (aa ab ba bb : Bool) (ha : Cr.fits ⟨ai, ah, ad, am, aw, aa, ab⟩) (hb : Cr.fits ⟨bi, bh, bd, bm, bw, ba, bb⟩) (w : World) : Calls Try.prog 33 #[.agg #[.int .u64 (ai : Int), .int .u64 (ah : Int), .int .u64 (ad : Int), .int .u64 (am : Int), .int .u64 (aw : Int), .bool aa, .bool ab, .int .u64 (bi : Int), .int .u64 (bh : Int), .int .u64 (bd : Int), .int .u64 (bm : Int), .int .u64 (bw : Int), .bool ba, .bool bb]] w fun e w' => e = .returned (.int .i64 (spanE ⟨ai, ah, ad, am, aw, aa, ab⟩ ⟨bi, bh, bd, bm, bw, ba, bb⟩)) ∧ Below w.heap.size w w' := by
  have HCa := Lib.hid ha; have HCb := Lib.hid hb
  have HB := Lib.hid ((Below.refl w.heap.size w).alloc (Nat.le_refl _) (.cells #[.int .u64 (ai : Int), .int .u64 (ah : Int), .int .u64 (ad : Int), .int .u64 (am : Int), .int .u64 (aw : Int), .bool aa, .bool ab, .int .u64 (bi : Int), .int .u64 (bh : Int), .int .u64 (bd : Int), .int .u64 (bm : Int), .int .u64 (bw : Int), .bool ba, .bool bb] 63))
  have HX := Lib.hid (Tide.At.made w 63 #[.int .u64 (ai : Int), .int .u64 (ah : Int), .int .u64 (ad : Int), .int .u64 (am : Int), .int .u64 (aw : Int), .bool aa, .bool ab, .int .u64 (bi : Int), .int .u64 (bh : Int), .int .u64 (bd : Int), .int .u64 (bm : Int), .int .u64 (bw : Int), .bool ba, .bool bb])
  clear ha hb
  have he : (Cr.err ⟨ai, ah, ad, am, aw, aa, ab⟩ = 0 ∧ spanE ⟨ai, ah, ad, am, aw, aa, ab⟩ ⟨bi, bh, bd, bm, bw, ba, bb⟩ = Cr.err ⟨bi, bh, bd, bm, bw, ba, bb⟩) ∨ (Cr.err ⟨ai, ah, ad, am, aw, aa, ab⟩ = 1 ∧ spanE ⟨ai, ah, ad, am, aw, aa, ab⟩ ⟨bi, bh, bd, bm, bw, ba, bb⟩ = 1) := by
    unfold spanE
    cases hok : Cr.ok ⟨ai, ah, ad, am, aw, aa, ab⟩
    · right; exact ⟨Cr.err_no hok, rfl⟩
    · left; exact ⟨Cr.err_yes hok, rfl⟩
  obtain ⟨R, hR⟩ : ∃ R, spanE ⟨ai, ah, ad, am, aw, aa, ab⟩ ⟨bi, bh, bd, bm, bw, ba, bb⟩ = R := ⟨_, rfl⟩
  rw [hR] at he ⊢
  have HE := Lib.hid he
  clear he hR
  have z0 := HX.out.here (i := 0) rfl; have z1 := HX.out.here (i := 1) rfl; have z2 := HX.out.here (i := 2) rfl; have z3 := HX.out.here (i := 3) rfl; have z4 := HX.out.here (i := 4) rfl; have z5 := HX.out.here (i := 5) rfl; have z6 := HX.out.here (i := 6) rfl; have z7 := HX.out.here (i := 7) rfl; have z8 := HX.out.here (i := 8) rfl; have z9 := HX.out.here (i := 9) rfl; have z10 := HX.out.here (i := 10) rfl; have z11 := HX.out.here (i := 11) rfl; have z12 := HX.out.here (i := 12) rfl; have z13 := HX.out.here (i := 13) rfl
  go_enter Try.func33, Try.ntmps33
  go_wp2_with fail
  refine (refCron ⟨ai, ah, ad, am, aw, aa, ab⟩ HCa.out _).mono ?_
  rintro e w1 ⟨rfl, hb1⟩
  have HB1 := Lib.hid (HB.out.trans (hb1.mono HB.out.size))
  have HX1 := Lib.hid (HX.out.below hb1 HX.out.inside)
  clear hb1 z0 z1 z2 z3 z4 z5 z6 z7 z8 z9 z10 z11 z12 z13
  rcases HE.out with ⟨h1, h2⟩ | ⟨h1, h2⟩
  · rw [h1]
    subst h2
    clear h1
    have y0 := HX1.out.here (i := 7) rfl; have y1 := HX1.out.here (i := 8) rfl; have y2 := HX1.out.here (i := 9) rfl; have y3 := HX1.out.here (i := 10) rfl; have y4 := HX1.out.here (i := 11) rfl; have y5 := HX1.out.here (i := 12) rfl; have y6 := HX1.out.here (i := 13) rfl
    go_wp2_with fail
    refine (refCron ⟨bi, bh, bd, bm, bw, ba, bb⟩ HCb.out _).mono ?_
    rintro e w2 ⟨rfl, hb2⟩
    have HF := Lib.hid (HB1.out.trans (hb2.mono HB1.out.size))
    clear hb2 y0 y1 y2 y3 y4 y5 y6
    go_wp2_with fail
    go_ret
    exact ⟨rfl, HF.out⟩
  · rw [h1]
    subst h2
    clear h1
    go_wp2_with fail
    go_ret
    exact ⟨rfl, HB1.out⟩
set_option maxRecDepth 100000 in
set_option maxHeartbeats 1600000 in
theorem refWithin (ai ah ad am aw bi bh bd bm bw : Nat) (aa ab ba bb : Bool) (ha : Cr.fits ⟨ai, ah, ad, am, aw, aa, ab⟩) (hb : Cr.fits ⟨bi, bh, bd, bm, bw, ba, bb⟩) (sec shift : Int) (w : World) (hE : spanE ⟨ai, ah, ad, am, aw, aa, ab⟩ ⟨bi, bh, bd, bm, bw, ba, bb⟩ = 0) (hot : okTime sec shift) : Calls Try.prog 52 #[.agg #[.int .u64 (ai : Int), .int .u64 (ah : Int), .int .u64 (ad : Int), .int .u64 (am : Int), .int .u64 (aw : Int), .bool aa, .bool ab, .int .u64 (bi : Int), .int .u64 (bh : Int), .int .u64 (bd : Int), .int .u64 (bm : Int), .int .u64 (bw : Int), .bool ba, .bool bb], .int .i64 sec, .int .i64 shift] w fun e w' => e = .returned (.bool (spanInB ⟨ai, ah, ad, am, aw, aa, ab⟩ ⟨bi, bh, bd, bm, bw, ba, bb⟩ sec shift)) ∧ Below w.heap.size w w' := by
  have HB := Lib.hid ((Below.refl w.heap.size w).alloc (Nat.le_refl _) (.cells #[.int .u64 (ai : Int), .int .u64 (ah : Int), .int .u64 (ad : Int), .int .u64 (am : Int), .int .u64 (aw : Int), .bool aa, .bool ab, .int .u64 (bi : Int), .int .u64 (bh : Int), .int .u64 (bd : Int), .int .u64 (bm : Int), .int .u64 (bw : Int), .bool ba, .bool bb] 63))
  have HX := Lib.hid (Tide.At.made w 63 #[.int .u64 (ai : Int), .int .u64 (ah : Int), .int .u64 (ad : Int), .int .u64 (am : Int), .int .u64 (aw : Int), .bool aa, .bool ab, .int .u64 (bi : Int), .int .u64 (bh : Int), .int .u64 (bd : Int), .int .u64 (bm : Int), .int .u64 (bw : Int), .bool ba, .bool bb])
  have HLa := Lib.hid (fun (W : World) => refLast ⟨ai, ah, ad, am, aw, aa, ab⟩ ha sec shift W hot (spanE_ok hE).1)
  have HLb := Lib.hid (fun (W : World) => refLast ⟨bi, bh, bd, bm, bw, ba, bb⟩ hb sec shift W hot (spanE_ok hE).2)
  have H1 := Lib.hid (show spanInB ⟨ai, ah, ad, am, aw, aa, ab⟩ ⟨bi, bh, bd, bm, bw, ba, bb⟩ sec shift = (Cr.seekB ⟨ai, ah, ad, am, aw, aa, ab⟩ sec shift (-1) && (!(Cr.seekB ⟨bi, bh, bd, bm, bw, ba, bb⟩ sec shift (-1)) || decide (Cr.seekN ⟨bi, bh, bd, bm, bw, ba, bb⟩ sec shift (-1) ≤ Cr.seekN ⟨ai, ah, ad, am, aw, aa, ab⟩ sec shift (-1)))) by unfold spanInB; rw [if_pos ⟨hE, hot⟩])
  clear ha hb hE hot
  have z0 := HX.out.here (i := 0) rfl; have z1 := HX.out.here (i := 1) rfl; have z2 := HX.out.here (i := 2) rfl; have z3 := HX.out.here (i := 3) rfl; have z4 := HX.out.here (i := 4) rfl; have z5 := HX.out.here (i := 5) rfl; have z6 := HX.out.here (i := 6) rfl; have z7 := HX.out.here (i := 7) rfl; have z8 := HX.out.here (i := 8) rfl; have z9 := HX.out.here (i := 9) rfl; have z10 := HX.out.here (i := 10) rfl; have z11 := HX.out.here (i := 11) rfl; have z12 := HX.out.here (i := 12) rfl; have z13 := HX.out.here (i := 13) rfl
  go_enter Try.func52, Try.ntmps52
  go_wp2_with fail
  refine (HLa.out _).mono ?_
  rintro e w1 ⟨rfl, hb1⟩
  have HB1 := Lib.hid (HB.out.trans (hb1.mono HB.out.size))
  have HX1 := Lib.hid (HX.out.below hb1 HX.out.inside)
  clear hb1 z0 z1 z2 z3 z4 z5 z6 z7 z8 z9 z10 z11 z12 z13
  have y0 := HX1.out.here (i := 7) rfl; have y1 := HX1.out.here (i := 8) rfl; have y2 := HX1.out.here (i := 9) rfl; have y3 := HX1.out.here (i := 10) rfl; have y4 := HX1.out.here (i := 11) rfl; have y5 := HX1.out.here (i := 12) rfl; have y6 := HX1.out.here (i := 13) rfl
  generalize Cr.seekN ⟨ai, ah, ad, am, aw, aa, ab⟩ sec shift (-1) = na at H1 ⊢
  generalize Cr.seekB ⟨ai, ah, ad, am, aw, aa, ab⟩ sec shift (-1) = ba' at H1 ⊢
  go_wp2_with fail
  refine (HLb.out _).mono ?_
  rintro e w2 ⟨rfl, hb2⟩
  have HF := Lib.hid (HB1.out.trans (hb2.mono HB1.out.size))
  clear hb2 y0 y1 y2 y3 y4 y5 y6
  generalize Cr.seekN ⟨bi, bh, bd, bm, bw, ba, bb⟩ sec shift (-1) = nb at H1 ⊢
  generalize Cr.seekB ⟨bi, bh, bd, bm, bw, ba, bb⟩ sec shift (-1) = bb' at H1 ⊢
  cases ba' <;> cases bb'
  case true.true =>
    by_cases hq : nb ≤ na
    · have h1 : decide (na < nb) = false := decide_eq_false (by omega)
      have HV := Lib.hid (H1.out.trans (show _ = true by rw [decide_eq_true hq]; rfl))
      go_wp2_with fail
      go_ret
      exact ⟨by rw [HV.out] <;> rfl, HF.out⟩
    · have h0 : na < nb := by omega
      have HV := Lib.hid (H1.out.trans (show _ = false by rw [decide_eq_false hq]; rfl))
      clear hq
      go_wp2_with fail
      go_ret
      exact ⟨by rw [HV.out] <;> rfl, HF.out⟩
  all_goals
    go_wp2_with fail
    go_ret
    exact ⟨by rw [H1.out] <;> rfl, HF.out⟩
end Go.Proofs.Ytcnoapogeohmkaa
