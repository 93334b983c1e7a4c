/- The contracts of the reference's Span, Within and Edge. -/
import Derived.Test.YtikjefghpnffkaaSekL
import Derived.Test.YtikjefghpnffkaaSpanX
namespace Go.Proofs.Ytikjefghpnffkaa
open Go.RowKit
set_option linter.unusedVariables false
/-- what Seek answers, of a right cron and time, as numbers -/
theorem refNext (c : Cr) (hf : c.fits) (sec shift : Int) (w : World) (hot : okTime sec shift) (hok : c.ok = true) :
    Calls Try.prog 14 #[.agg c.cells, .int .i64 sec, .int .i64 shift, .int .i64 1] w fun e w' => e = .returned (.tuple #[.int .i64 (c.seekN sec shift 1), .bool (c.seekB sec shift 1)]) ∧ Below w.heap.size w w' := by
  rw [← found_same (.inl rfl) hot hok]; exact refSeekUp c hf sec shift w hot
theorem refLast (c : Cr) (hf : c.fits) (sec shift : Int) (w : World) (hot : okTime sec shift) (hok : c.ok = true) :
    Calls Try.prog 14 #[.agg c.cells, .int .i64 sec, .int .i64 shift, .int .i64 (-1)] w fun e w' => e = .returned (.tuple #[.int .i64 (c.seekN sec shift (-1)), .bool (c.seekB sec shift (-1))]) ∧ Below w.heap.size w w' := by
  rw [← found_same (.inr rfl) hot hok]; exact refSeekDn c hf sec shift w hot
set_option maxRecDepth 100000 in
set_option maxHeartbeats 1600000 in
theorem refSpan (ai ah ad am aw bi bh bd bm bw : Nat) (aa ab ba bb : Bool) (ha : Cr.fits ⟨ai, ah, ad, am, aw, aa, ab⟩) (hb : Cr.fits ⟨bi, bh, bd, bm, bw, ba, bb⟩) (w : World) : Calls Try.prog 22 #[.agg #[.int .u64 (ai : Int), .int .u64 (ah : Int), .int .u64 (ad : Int), .int .u64 (am : Int), .int .u64 (aw : Int), .bool aa, .bool ab, .int .u64 (bi : Int), .int .u64 (bh : Int), .int .u64 (bd : Int), .int .u64 (bm : Int), .int .u64 (bw : Int), .bool ba, .bool bb]] w fun e w' => e = .returned (.int .i64 (spanE ⟨ai, ah, ad, am, aw, aa, ab⟩ ⟨bi, bh, bd, bm, bw, ba, bb⟩)) ∧ Below w.heap.size w w' := by
  have HCa := Lib.hid ha; have HCb := Lib.hid hb
  have HB := Lib.hid ((Below.refl w.heap.size w).alloc (Nat.le_refl _) (.cells #[.int .u64 (ai : Int), .int .u64 (ah : Int), .int .u64 (ad : Int), .int .u64 (am : Int), .int .u64 (aw : Int), .bool aa, .bool ab, .int .u64 (bi : Int), .int .u64 (bh : Int), .int .u64 (bd : Int), .int .u64 (bm : Int), .int .u64 (bw : Int), .bool ba, .bool bb] 42))
  have HX := Lib.hid (Tide.At.made w 42 #[.int .u64 (ai : Int), .int .u64 (ah : Int), .int .u64 (ad : Int), .int .u64 (am : Int), .int .u64 (aw : Int), .bool aa, .bool ab, .int .u64 (bi : Int), .int .u64 (bh : Int), .int .u64 (bd : Int), .int .u64 (bm : Int), .int .u64 (bw : Int), .bool ba, .bool bb])
  clear ha hb
  have he : (Cr.err ⟨ai, ah, ad, am, aw, aa, ab⟩ = 0 ∧ spanE ⟨ai, ah, ad, am, aw, aa, ab⟩ ⟨bi, bh, bd, bm, bw, ba, bb⟩ = Cr.err ⟨bi, bh, bd, bm, bw, ba, bb⟩) ∨ (Cr.err ⟨ai, ah, ad, am, aw, aa, ab⟩ = 1 ∧ spanE ⟨ai, ah, ad, am, aw, aa, ab⟩ ⟨bi, bh, bd, bm, bw, ba, bb⟩ = 1) := by
    unfold spanE
    cases hok : Cr.ok ⟨ai, ah, ad, am, aw, aa, ab⟩
    · right; exact ⟨Cr.err_no hok, rfl⟩
    · left; exact ⟨Cr.err_yes hok, rfl⟩
  obtain ⟨R, hR⟩ : ∃ R, spanE ⟨ai, ah, ad, am, aw, aa, ab⟩ ⟨bi, bh, bd, bm, bw, ba, bb⟩ = R := ⟨_, rfl⟩
  rw [hR] at he ⊢
  have HE := Lib.hid he
  clear he hR
  have z0 := HX.out.here (i := 0) rfl; have z1 := HX.out.here (i := 1) rfl; have z2 := HX.out.here (i := 2) rfl; have z3 := HX.out.here (i := 3) rfl; have z4 := HX.out.here (i := 4) rfl; have z5 := HX.out.here (i := 5) rfl; have z6 := HX.out.here (i := 6) rfl; have z7 := HX.out.here (i := 7) rfl; have z8 := HX.out.here (i := 8) rfl; have z9 := HX.out.here (i := 9) rfl; have z10 := HX.out.here (i := 10) rfl; have z11 := HX.out.here (i := 11) rfl; have z12 := HX.out.here (i := 12) rfl; have z13 := HX.out.here (i := 13) rfl
  go_enter Try.func22, Try.ntmps22
  go_wp2_with fail
  refine (refCron ⟨ai, ah, ad, am, aw, aa, ab⟩ HCa.out _).mono ?_
  rintro e w1 ⟨rfl, hb1⟩
  have HB1 := Lib.hid (HB.out.trans (hb1.mono HB.out.size))
  have HX1 := Lib.hid (HX.out.below hb1 HX.out.inside)
  clear hb1 z0 z1 z2 z3 z4 z5 z6 z7 z8 z9 z10 z11 z12 z13
  rcases HE.out with ⟨h1, h2⟩ | ⟨h1, h2⟩
  · rw [h1]
    subst h2
    clear h1
    have y0 := HX1.out.here (i := 7) rfl; have y1 := HX1.out.here (i := 8) rfl; have y2 := HX1.out.here (i := 9) rfl; have y3 := HX1.out.here (i := 10) rfl; have y4 := HX1.out.here (i := 11) rfl; have y5 := HX1.out.here (i := 12) rfl; have y6 := HX1.out.here (i := 13) rfl
    go_wp2_with fail
    refine (refCron ⟨bi, bh, bd, bm, bw, ba, bb⟩ HCb.out _).mono ?_
    rintro e w2 ⟨rfl, hb2⟩
    have HF := Lib.hid (HB1.out.trans (hb2.mono HB1.out.size))
    clear hb2 y0 y1 y2 y3 y4 y5 y6
    go_wp2_with fail
    go_ret
    exact ⟨rfl, HF.out⟩
  · rw [h1]
    subst h2
    clear h1
    go_wp2_with fail
    go_ret
    exact ⟨rfl, HB1.out⟩
set_option maxRecDepth 100000 in
set_option maxHeartbeats 1600000 in
theorem refWithin (ai ah ad am aw bi bh bd bm bw : Nat) (aa ab ba bb : Bool) (ha : Cr.fits ⟨ai, ah, ad, am, aw, aa, ab⟩) (hb : Cr.fits ⟨bi, bh, bd, bm, bw, ba, bb⟩) (sec shift : Int) (w : World) (hE : spanE ⟨ai, ah, ad, am, aw, aa, ab⟩ ⟨bi, bh, bd, bm, bw, ba, bb⟩ = 0) (hot : okTime sec shift) : Calls Try.prog 24 #[.agg #[.int .u64 (ai : Int), .int .u64 (ah : Int), .int .u64 (ad : Int), .int .u64 (am : Int), .int .u64 (aw : Int), .bool aa, .bool ab, .int .u64 (bi : Int), .int .u64 (bh : Int), .int .u64 (bd : Int), .int .u64 (bm : Int), .int .u64 (bw : Int), .bool ba, .bool bb], .int .i64 sec, .int .i64 shift] w fun e w' => e = .returned (.bool (spanInB ⟨ai, ah, ad, am, aw, aa, ab⟩ ⟨bi, bh, bd, bm, bw, ba, bb⟩ sec shift)) ∧ Below w.heap.size w w' := by
  have HB := Lib.hid ((Below.refl w.heap.size w).alloc (Nat.le_refl _) (.cells #[.int .u64 (ai : Int), .int .u64 (ah : Int), .int .u64 (ad : Int), .int .u64 (am : Int), .int .u64 (aw : Int), .bool aa, .bool ab, .int .u64 (bi : Int), .int .u64 (bh : Int), .int .u64 (bd : Int), .int .u64 (bm : Int), .int .u64 (bw : Int), .bool ba, .bool bb] 42))
  have HX := Lib.hid (Tide.At.made w 42 #[.int .u64 (ai : Int), .int .u64 (ah : Int), .int .u64 (ad : Int), .int .u64 (am : Int), .int .u64 (aw : Int), .bool aa, .bool ab, .int .u64 (bi : Int), .int .u64 (bh : Int), .int .u64 (bd : Int), .int .u64 (bm : Int), .int .u64 (bw : Int), .bool ba, .bool bb])
  have HLa := Lib.hid (fun (W : World) => refLast ⟨ai, ah, ad, am, aw, aa, ab⟩ ha sec shift W hot (spanE_ok hE).1)
  have HLb := Lib.hid (fun (W : World) => refLast ⟨bi, bh, bd, bm, bw, ba, bb⟩ hb sec shift W hot (spanE_ok hE).2)
  have H1 := Lib.hid (show spanInB ⟨ai, ah, ad, am, aw, aa, ab⟩ ⟨bi, bh, bd, bm, bw, ba, bb⟩ sec shift = (Cr.seekB ⟨ai, ah, ad, am, aw, aa, ab⟩ sec shift (-1) && (!(Cr.seekB ⟨bi, bh, bd, bm, bw, ba, bb⟩ sec shift (-1)) || decide (Cr.seekN ⟨bi, bh, bd, bm, bw, ba, bb⟩ sec shift (-1) ≤ Cr.seekN ⟨ai, ah, ad, am, aw, aa, ab⟩ sec shift (-1)))) by unfold spanInB; rw [if_pos ⟨hE, hot⟩])
  clear ha hb hE hot
  have z0 := HX.out.here (i := 0) rfl; have z1 := HX.out.here (i := 1) rfl; have z2 := HX.out.here (i := 2) rfl; have z3 := HX.out.here (i := 3) rfl; have z4 := HX.out.here (i := 4) rfl; have z5 := HX.out.here (i := 5) rfl; have z6 := HX.out.here (i := 6) rfl; have z7 := HX.out.here (i := 7) rfl; have z8 := HX.out.here (i := 8) rfl; have z9 := HX.out.here (i := 9) rfl; have z10 := HX.out.here (i := 10) rfl; have z11 := HX.out.here (i := 11) rfl; have z12 := HX.out.here (i := 12) rfl; have z13 := HX.out.here (i := 13) rfl
  go_enter Try.func24, Try.ntmps24
  go_wp2_with fail
  refine (HLa.out _).mono ?_
  rintro e w1 ⟨rfl, hb1⟩
  have HB1 := Lib.hid (HB.out.trans (hb1.mono HB.out.size))
  have HX1 := Lib.hid (HX.out.below hb1 HX.out.inside)
  clear hb1 z0 z1 z2 z3 z4 z5 z6 z7 z8 z9 z10 z11 z12 z13
  have y0 := HX1.out.here (i := 7) rfl; have y1 := HX1.out.here (i := 8) rfl; have y2 := HX1.out.here (i := 9) rfl; have y3 := HX1.out.here (i := 10) rfl; have y4 := HX1.out.here (i := 11) rfl; have y5 := HX1.out.here (i := 12) rfl; have y6 := HX1.out.here (i := 13) rfl
  generalize Cr.seekN ⟨ai, ah, ad, am, aw, aa, ab⟩ sec shift (-1) = na at H1 ⊢
  generalize Cr.seekB ⟨ai, ah, ad, am, aw, aa, ab⟩ sec shift (-1) = ba' at H1 ⊢
  go_wp2_with fail
  refine (HLb.out _).mono ?_
  rintro e w2 ⟨rfl, hb2⟩
  have HF := Lib.hid (HB1.out.trans (hb2.mono HB1.out.size))
  clear hb2 y0 y1 y2 y3 y4 y5 y6
  generalize Cr.seekN ⟨bi, bh, bd, bm, bw, ba, bb⟩ sec shift (-1) = nb at H1 ⊢
  generalize Cr.seekB ⟨bi, bh, bd, bm, bw, ba, bb⟩ sec shift (-1) = bb' at H1 ⊢
  cases ba' <;> cases bb'
  case true.true =>
    by_cases hq : nb ≤ na
    · have h1 : decide (na < nb) = false := decide_eq_false (by omega)
      have HV := Lib.hid (H1.out.trans (show _ = true by rw [decide_eq_true hq]; rfl))
      go_wp2_with fail
      go_ret
      exact ⟨by rw [HV.out] <;> rfl, HF.out⟩
    · have h0 : na < nb := by omega
      have HV := Lib.hid (H1.out.trans (show _ = false by rw [decide_eq_false hq]; rfl))
      clear hq
      go_wp2_with fail
      go_ret
      exact ⟨by rw [HV.out] <;> rfl, HF.out⟩
  all_goals
    go_wp2_with fail
    go_ret
    exact ⟨by rw [H1.out] <;> rfl, HF.out⟩
set_option maxRecDepth 100000 in
set_option maxHeartbeats 6400000 in
theorem refEdge (ai ah ad am aw bi bh bd bm bw : Nat) (aa ab ba bb : Bool) (ha : Cr.fits ⟨ai, ah, ad, am, aw, aa, ab⟩) (hb : Cr.fits ⟨bi, bh, bd, bm, bw, ba, bb⟩) (sec shift : Int) (w : World) (hE : spanE ⟨ai, ah, ad, am, aw, aa, ab⟩ ⟨bi, bh, bd, bm, bw, ba, bb⟩ = 0) (hot : okTime sec shift) : Calls Try.prog 25 #[.agg #[.int .u64 (ai : Int), .int .u64 (ah : Int), .int .u64 (ad : Int), .int .u64 (am : Int), .int .u64 (aw : Int), .bool aa, .bool ab, .int .u64 (bi : Int), .int .u64 (bh : Int), .int .u64 (bd : Int), .int .u64 (bm : Int), .int .u64 (bw : Int), .bool ba, .bool bb], .int .i64 sec, .int .i64 shift] w fun e w' => e = .returned (.tuple #[.int .i64 (edgeN ⟨ai, ah, ad, am, aw, aa, ab⟩ ⟨bi, bh, bd, bm, bw, ba, bb⟩ sec shift), .bool (edgeB ⟨ai, ah, ad, am, aw, aa, ab⟩ ⟨bi, bh, bd, bm, bw, ba, bb⟩ sec shift)]) ∧ Below w.heap.size w w' := by
  have HB := Lib.hid ((Below.refl w.heap.size w).alloc (Nat.le_refl _) (.cells #[.int .u64 (ai : Int), .int .u64 (ah : Int), .int .u64 (ad : Int), .int .u64 (am : Int), .int .u64 (aw : Int), .bool aa, .bool ab, .int .u64 (bi : Int), .int .u64 (bh : Int), .int .u64 (bd : Int), .int .u64 (bm : Int), .int .u64 (bw : Int), .bool ba, .bool bb] 42))
  have HX := Lib.hid (Tide.At.made w 42 #[.int .u64 (ai : Int), .int .u64 (ah : Int), .int .u64 (ad : Int), .int .u64 (am : Int), .int .u64 (aw : Int), .bool aa, .bool ab, .int .u64 (bi : Int), .int .u64 (bh : Int), .int .u64 (bd : Int), .int .u64 (bm : Int), .int .u64 (bw : Int), .bool ba, .bool bb])
  have HI := Lib.hid (fun (n : Int) (W : World) (hn : okTime n shift) => spanInB_is hE hn ▸ refWithin ai ah ad am aw bi bh bd bm bw aa ab ba bb ha hb n shift W hE hn)
  have HNa := Lib.hid (fun (n : Int) (W : World) (hn : okTime n shift) => refNext ⟨ai, ah, ad, am, aw, aa, ab⟩ ha n shift W hn (spanE_ok hE).1)
  have HNb := Lib.hid (fun (n : Int) (W : World) (hn : okTime n shift) => refNext ⟨bi, bh, bd, bm, bw, ba, bb⟩ hb n shift W hn (spanE_ok hE).2)
  have HOt := Lib.hid hot
  have H1 := Lib.hid (show edgeN ⟨ai, ah, ad, am, aw, aa, ab⟩ ⟨bi, bh, bd, bm, bw, ba, bb⟩ sec shift = (edgeO ⟨ai, ah, ad, am, aw, aa, ab⟩ ⟨bi, bh, bd, bm, bw, ba, bb⟩ shift (inAt ⟨ai, ah, ad, am, aw, aa, ab⟩ ⟨bi, bh, bd, bm, bw, ba, bb⟩ shift sec) 200 sec).getD 0 by unfold edgeN; rw [if_pos ⟨hE, hot⟩])
  have H2 := Lib.hid (show edgeB ⟨ai, ah, ad, am, aw, aa, ab⟩ ⟨bi, bh, bd, bm, bw, ba, bb⟩ sec shift = (edgeO ⟨ai, ah, ad, am, aw, aa, ab⟩ ⟨bi, bh, bd, bm, bw, ba, bb⟩ shift (inAt ⟨ai, ah, ad, am, aw, aa, ab⟩ ⟨bi, bh, bd, bm, bw, ba, bb⟩ shift sec) 200 sec).isSome by unfold edgeB; rw [if_pos ⟨hE, hot⟩])
  have HOa := Lib.hid (spanE_ok hE).1; have HOb := Lib.hid (spanE_ok hE).2
  clear hE hot ha hb
  have z0 := HX.out.here (i := 0) rfl; have z1 := HX.out.here (i := 1) rfl; have z2 := HX.out.here (i := 2) rfl; have z3 := HX.out.here (i := 3) rfl; have z4 := HX.out.here (i := 4) rfl; have z5 := HX.out.here (i := 5) rfl; have z6 := HX.out.here (i := 6) rfl; have z7 := HX.out.here (i := 7) rfl; have z8 := HX.out.here (i := 8) rfl; have z9 := HX.out.here (i := 9) rfl; have z10 := HX.out.here (i := 10) rfl; have z11 := HX.out.here (i := 11) rfl; have z12 := HX.out.here (i := 12) rfl; have z13 := HX.out.here (i := 13) rfl
  go_enter Try.func25, Try.ntmps25
  go_wp2_with fail
  refine (HI.out sec _ HOt.out).mono ?_
  rintro e w1 ⟨rfl, hb1⟩
  have HB1 := Lib.hid (HB.out.trans (hb1.mono HB.out.size))
  have HX1 := Lib.hid (HX.out.below hb1 HX.out.inside)
  clear hb1 z0 z1 z2 z3 z4 z5 z6 z7 z8 z9 z10 z11 z12 z13 HB HX
  obtain ⟨now, hnow⟩ : ∃ now, inAt ⟨ai, ah, ad, am, aw, aa, ab⟩ ⟨bi, bh, bd, bm, bw, ba, bb⟩ shift sec = now := ⟨_, rfl⟩
  rw [hnow] at H1 H2 ⊢
  clear hnow
  go_wp2_with fail
  go_loopw [1, 9] (fun x y wr => ∃ k : Nat, k ≤ 200 ∧ ∃ s : Int, x = .int .i64 s ∧ y = .int .i64 k ∧ Hid (okTime s shift) ∧ Hid (edgeO ⟨ai, ah, ad, am, aw, aa, ab⟩ ⟨bi, bh, bd, bm, bw, ba, bb⟩ shift now 200 sec = edgeO ⟨ai, ah, ad, am, aw, aa, ab⟩ ⟨bi, bh, bd, bm, bw, ba, bb⟩ shift now (200 - k) s) ∧ Hid (Below w1.heap.size w1 wr)) (fun _ y _ => 200 - (intOf y).toNat)
  case atStart => exact ⟨0, by omega, sec, rfl, rfl, HOt, Lib.hid rfl, Lib.hid (Below.refl _ _)⟩
  case round =>
    obtain ⟨k, hk, s, rfl, rfl, HS, HEd, HBr⟩ := hrel
    by_cases hlt : k < 200
    · have HX4 := Lib.hid (HX1.out.below HBr.out HX1.out.inside)
      have c1 : (k : Int) < 200 := by omega
      have z0 := HX4.out.here (i := 0) rfl; have z1 := HX4.out.here (i := 1) rfl; have z2 := HX4.out.here (i := 2) rfl; have z3 := HX4.out.here (i := 3) rfl; have z4 := HX4.out.here (i := 4) rfl; have z5 := HX4.out.here (i := 5) rfl; have z6 := HX4.out.here (i := 6) rfl; have z7 := HX4.out.here (i := 7) rfl; have z8 := HX4.out.here (i := 8) rfl; have z9 := HX4.out.here (i := 9) rfl; have z10 := HX4.out.here (i := 10) rfl; have z11 := HX4.out.here (i := 11) rfl; have z12 := HX4.out.here (i := 12) rfl; have z13 := HX4.out.here (i := 13) rfl
      go_upto_region 6 with fail
      have HB5 := Lib.hid (HBr.out.alloc HBr.out.size (.cells #[.int .u64 (ai : Int), .int .u64 (ah : Int), .int .u64 (ad : Int), .int .u64 (am : Int), .int .u64 (aw : Int), .bool aa, .bool ab] 24))
      have HX5 := Lib.hid (HX4.out.alloc (.cells #[.int .u64 (ai : Int), .int .u64 (ah : Int), .int .u64 (ad : Int), .int .u64 (am : Int), .int .u64 (aw : Int), .bool aa, .bool ab] 24))
      have HY5 := Lib.hid (Tide.At.made wr 24 #[.int .u64 (ai : Int), .int .u64 (ah : Int), .int .u64 (ad : Int), .int .u64 (am : Int), .int .u64 (aw : Int), .bool aa, .bool ab])
      obtain ⟨g, hgv⟩ : ∃ g, g = wr.heap.size := ⟨_, rfl⟩
      have HG := Lib.hid (show w1.heap.size ≤ g by rw [hgv]; exact HBr.out.size)
      have HN := Lib.hid (show w.heap.size ≠ g by rw [hgv]; have := HX4.out.inside; omega)
      rw [← hgv] at HY5 ⊢
      generalize wr.alloc (.cells #[.int .u64 (ai : Int), .int .u64 (ah : Int), .int .u64 (ad : Int), .int .u64 (am : Int), .int .u64 (aw : Int), .bool aa, .bool ab] 24) = W at HB5 HX5 HY5 ⊢
      clear hgv z0 z1 z2 z3 z4 z5 z6 z7 z8 z9 z10 z11 z12 z13
      cases now
      case false =>
        have c0 := HY5.out.here (i := 0) rfl; have c1 := HY5.out.here (i := 1) rfl; have c2 := HY5.out.here (i := 2) rfl; have c3 := HY5.out.here (i := 3) rfl; have c4 := HY5.out.here (i := 4) rfl; have c5 := HY5.out.here (i := 5) rfl; have c6 := HY5.out.here (i := 6) rfl
        go_wp2_with fail
        refine (HNa.out s _ HS.out).mono ?_
        rintro e w6 ⟨rfl, hb6⟩
        clear c0 c1 c2 c3 c4 c5 c6
        have HB6 := Lib.hid (HB5.out.trans (hb6.mono HB5.out.size))
        have HX6 := Lib.hid (HX5.out.below hb6 HX5.out.inside)
        have HBe6 := Lib.hid (HB1.out.trans (HB6.out.mono HB1.out.size))
        clear hb6 HX5 HY5 HB5
        have HR := Lib.hid (show 200 - k = (200 - (k + 1)) + 1 by omega)
        have HK := Lib.hid hlt
        cases hq : Cr.seekO ⟨ai, ah, ad, am, aw, aa, ab⟩ s shift 1 with
        | none =>
          have HF := Lib.hid (show edgeO ⟨ai, ah, ad, am, aw, aa, ab⟩ ⟨bi, bh, bd, bm, bw, ba, bb⟩ shift false 200 sec = none by rw [HEd.out, HR.out]; exact edgeO_none hq)
          rw [show Cr.seekB ⟨ai, ah, ad, am, aw, aa, ab⟩ s shift 1 = false by unfold Cr.seekB; rw [if_pos ⟨HOa.out, HS.out⟩, hq]; rfl]
          clear hq hlt hk
          go_wp2_with fail
          go_ret2
          exact ⟨by rw [H1.out, H2.out, HF.out] <;> rfl, HBe6.out⟩
        | some n =>
          have HS2 := Lib.hid (Cr.up_time HS.out hq)
          have HF := Lib.hid (show edgeO ⟨ai, ah, ad, am, aw, aa, ab⟩ ⟨bi, bh, bd, bm, bw, ba, bb⟩ shift false 200 sec = if (inAt ⟨ai, ah, ad, am, aw, aa, ab⟩ ⟨bi, bh, bd, bm, bw, ba, bb⟩ shift n == false) = true then edgeO ⟨ai, ah, ad, am, aw, aa, ab⟩ ⟨bi, bh, bd, bm, bw, ba, bb⟩ shift false (200 - (k + 1)) n else some n by rw [HEd.out, HR.out]; exact edgeO_some hq)
          rw [show Cr.seekB ⟨ai, ah, ad, am, aw, aa, ab⟩ s shift 1 = true by unfold Cr.seekB; rw [if_pos ⟨HOa.out, HS.out⟩, hq]; rfl, show Cr.seekN ⟨ai, ah, ad, am, aw, aa, ab⟩ s shift 1 = n by unfold Cr.seekN; rw [if_pos ⟨HOa.out, HS.out⟩, hq]; rfl]
          clear hq hlt hk
          have z0 := HX6.out.here (i := 0) rfl; have z1 := HX6.out.here (i := 1) rfl; have z2 := HX6.out.here (i := 2) rfl; have z3 := HX6.out.here (i := 3) rfl; have z4 := HX6.out.here (i := 4) rfl; have z5 := HX6.out.here (i := 5) rfl; have z6 := HX6.out.here (i := 6) rfl; have z7 := HX6.out.here (i := 7) rfl; have z8 := HX6.out.here (i := 8) rfl; have z9 := HX6.out.here (i := 9) rfl; have z10 := HX6.out.here (i := 10) rfl; have z11 := HX6.out.here (i := 11) rfl; have z12 := HX6.out.here (i := 12) rfl; have z13 := HX6.out.here (i := 13) rfl
          go_wp2_with fail
          refine (HI.out n _ HS2.out).mono ?_
          rintro e w7 ⟨rfl, hb7⟩
          have HB7 := Lib.hid (HB6.out.trans (hb7.mono HB6.out.size))
          have HBe7 := Lib.hid (HB1.out.trans (HB7.out.mono HB1.out.size))
          clear z0 z1 z2 z3 z4 z5 z6 z7 z8 z9 z10 z11 z12 z13 hb7 HX6
          cases hi : inAt ⟨ai, ah, ad, am, aw, aa, ab⟩ ⟨bi, bh, bd, bm, bw, ba, bb⟩ shift n with
          | false =>
            have HG2 := Lib.hid (show edgeO ⟨ai, ah, ad, am, aw, aa, ab⟩ ⟨bi, bh, bd, bm, bw, ba, bb⟩ shift false 200 sec = edgeO ⟨ai, ah, ad, am, aw, aa, ab⟩ ⟨bi, bh, bd, bm, bw, ba, bb⟩ shift false (200 - (k + 1)) n by rw [HF.out, hi]; rfl)
            clear hi
            go_wp2_with fail
            go_roundw
            case rel => exact ⟨k + 1, by have := HK.out; omega, n, rfl, by go_num, HS2, HG2, HB7⟩
            case measure => have := HK.out; simp [intOf]; omega
          | true =>
            have HG2 := Lib.hid (show edgeO ⟨ai, ah, ad, am, aw, aa, ab⟩ ⟨bi, bh, bd, bm, bw, ba, bb⟩ shift false 200 sec = some n by rw [HF.out, hi]; rfl)
            clear hi
            go_wp2_with fail
            go_ret2
            exact ⟨by rw [H1.out, H2.out, HG2.out] <;> rfl, HBe7.out⟩
      case true =>
        have z0 := HX5.out.here (i := 0) rfl; have z1 := HX5.out.here (i := 1) rfl; have z2 := HX5.out.here (i := 2) rfl; have z3 := HX5.out.here (i := 3) rfl; have z4 := HX5.out.here (i := 4) rfl; have z5 := HX5.out.here (i := 5) rfl; have z6 := HX5.out.here (i := 6) rfl; have z7 := HX5.out.here (i := 7) rfl; have z8 := HX5.out.here (i := 8) rfl; have z9 := HX5.out.here (i := 9) rfl; have z10 := HX5.out.here (i := 10) rfl; have z11 := HX5.out.here (i := 11) rfl; have z12 := HX5.out.here (i := 12) rfl; have z13 := HX5.out.here (i := 13) rfl
        have c0 := HY5.out.here (i := 0) rfl; have c1 := HY5.out.here (i := 1) rfl; have c2 := HY5.out.here (i := 2) rfl; have c3 := HY5.out.here (i := 3) rfl; have c4 := HY5.out.here (i := 4) rfl; have c5 := HY5.out.here (i := 5) rfl; have c6 := HY5.out.here (i := 6) rfl
        have f0 := HY5.out.soft 0; have f1 := HY5.out.soft 1; have f2 := HY5.out.soft 2; have f3 := HY5.out.soft 3; have f4 := HY5.out.soft 4; have f5 := HY5.out.soft 5; have f6 := HY5.out.soft 6
        go_upto_region 8 with fail
        have h3 := put7 HX5.out HY5.out HN.out HB5.out HG.out (.int .u64 (bi : Int)) (.int .u64 (bh : Int)) (.int .u64 (bd : Int)) (.int .u64 (bm : Int)) (.int .u64 (bw : Int)) (.bool ba) (.bool bb)
        have HX5 := Lib.hid h3.1; have HY5 := Lib.hid h3.2.1; have HB5 := Lib.hid h3.2.2
        clear z0 z1 z2 z3 z4 z5 z6 z7 z8 z9 z10 z11 z12 z13 c0 c1 c2 c3 c4 c5 c6 f0 f1 f2 f3 f4 f5 f6 h3
        obtain ⟨W3, hW3⟩ : ∃ W3, W3 = (((((((W).setCell ⟨g, 0, none⟩ (.int .u64 (bi : Int))).setCell ⟨g, 1, none⟩ (.int .u64 (bh : Int))).setCell ⟨g, 2, none⟩ (.int .u64 (bd : Int))).setCell ⟨g, 3, none⟩ (.int .u64 (bm : Int))).setCell ⟨g, 4, none⟩ (.int .u64 (bw : Int))).setCell ⟨g, 5, none⟩ (.bool ba)).setCell ⟨g, 6, none⟩ (.bool bb) := ⟨_, rfl⟩
        rw [← hW3] at HB5 HX5 HY5 ⊢
        clear hW3
        have c0 := HY5.out.here (i := 0) rfl; have c1 := HY5.out.here (i := 1) rfl; have c2 := HY5.out.here (i := 2) rfl; have c3 := HY5.out.here (i := 3) rfl; have c4 := HY5.out.here (i := 4) rfl; have c5 := HY5.out.here (i := 5) rfl; have c6 := HY5.out.here (i := 6) rfl
        go_wp2_with fail
        refine (HNb.out s _ HS.out).mono ?_
        rintro e w6 ⟨rfl, hb6⟩
        clear c0 c1 c2 c3 c4 c5 c6
        have HB6 := Lib.hid (HB5.out.trans (hb6.mono HB5.out.size))
        have HX6 := Lib.hid (HX5.out.below hb6 HX5.out.inside)
        have HBe6 := Lib.hid (HB1.out.trans (HB6.out.mono HB1.out.size))
        clear hb6 HX5 HY5 HB5
        have HR := Lib.hid (show 200 - k = (200 - (k + 1)) + 1 by omega)
        have HK := Lib.hid hlt
        cases hq : Cr.seekO ⟨bi, bh, bd, bm, bw, ba, bb⟩ s shift 1 with
        | none =>
          have HF := Lib.hid (show edgeO ⟨ai, ah, ad, am, aw, aa, ab⟩ ⟨bi, bh, bd, bm, bw, ba, bb⟩ shift true 200 sec = none by rw [HEd.out, HR.out]; exact edgeO_none hq)
          rw [show Cr.seekB ⟨bi, bh, bd, bm, bw, ba, bb⟩ s shift 1 = false by unfold Cr.seekB; rw [if_pos ⟨HOb.out, HS.out⟩, hq]; rfl]
          clear hq hlt hk
          go_wp2_with fail
          go_ret2
          exact ⟨by rw [H1.out, H2.out, HF.out] <;> rfl, HBe6.out⟩
        | some n =>
          have HS2 := Lib.hid (Cr.up_time HS.out hq)
          have HF := Lib.hid (show edgeO ⟨ai, ah, ad, am, aw, aa, ab⟩ ⟨bi, bh, bd, bm, bw, ba, bb⟩ shift true 200 sec = if (inAt ⟨ai, ah, ad, am, aw, aa, ab⟩ ⟨bi, bh, bd, bm, bw, ba, bb⟩ shift n == true) = true then edgeO ⟨ai, ah, ad, am, aw, aa, ab⟩ ⟨bi, bh, bd, bm, bw, ba, bb⟩ shift true (200 - (k + 1)) n else some n by rw [HEd.out, HR.out]; exact edgeO_some hq)
          rw [show Cr.seekB ⟨bi, bh, bd, bm, bw, ba, bb⟩ s shift 1 = true by unfold Cr.seekB; rw [if_pos ⟨HOb.out, HS.out⟩, hq]; rfl, show Cr.seekN ⟨bi, bh, bd, bm, bw, ba, bb⟩ s shift 1 = n by unfold Cr.seekN; rw [if_pos ⟨HOb.out, HS.out⟩, hq]; rfl]
          clear hq hlt hk
          have z0 := HX6.out.here (i := 0) rfl; have z1 := HX6.out.here (i := 1) rfl; have z2 := HX6.out.here (i := 2) rfl; have z3 := HX6.out.here (i := 3) rfl; have z4 := HX6.out.here (i := 4) rfl; have z5 := HX6.out.here (i := 5) rfl; have z6 := HX6.out.here (i := 6) rfl; have z7 := HX6.out.here (i := 7) rfl; have z8 := HX6.out.here (i := 8) rfl; have z9 := HX6.out.here (i := 9) rfl; have z10 := HX6.out.here (i := 10) rfl; have z11 := HX6.out.here (i := 11) rfl; have z12 := HX6.out.here (i := 12) rfl; have z13 := HX6.out.here (i := 13) rfl
          go_wp2_with fail
          refine (HI.out n _ HS2.out).mono ?_
          rintro e w7 ⟨rfl, hb7⟩
          have HB7 := Lib.hid (HB6.out.trans (hb7.mono HB6.out.size))
          have HBe7 := Lib.hid (HB1.out.trans (HB7.out.mono HB1.out.size))
          clear z0 z1 z2 z3 z4 z5 z6 z7 z8 z9 z10 z11 z12 z13 hb7 HX6
          cases hi : inAt ⟨ai, ah, ad, am, aw, aa, ab⟩ ⟨bi, bh, bd, bm, bw, ba, bb⟩ shift n with
          | true =>
            have HG2 := Lib.hid (show edgeO ⟨ai, ah, ad, am, aw, aa, ab⟩ ⟨bi, bh, bd, bm, bw, ba, bb⟩ shift true 200 sec = edgeO ⟨ai, ah, ad, am, aw, aa, ab⟩ ⟨bi, bh, bd, bm, bw, ba, bb⟩ shift true (200 - (k + 1)) n by rw [HF.out, hi]; rfl)
            clear hi
            go_wp2_with fail
            go_roundw
            case rel => exact ⟨k + 1, by have := HK.out; omega, n, rfl, by go_num, HS2, HG2, HB7⟩
            case measure => have := HK.out; simp [intOf]; omega
          | false =>
            have HG2 := Lib.hid (show edgeO ⟨ai, ah, ad, am, aw, aa, ab⟩ ⟨bi, bh, bd, bm, bw, ba, bb⟩ shift true 200 sec = some n by rw [HF.out, hi]; rfl)
            clear hi
            go_wp2_with fail
            go_ret2
            exact ⟨by rw [H1.out, H2.out, HG2.out] <;> rfl, HBe7.out⟩
    · have hie : k = 200 := by omega
      subst hie
      have HF := Lib.hid (show edgeO ⟨ai, ah, ad, am, aw, aa, ab⟩ ⟨bi, bh, bd, bm, bw, ba, bb⟩ shift now 200 sec = none by rw [HEd.out]; exact edgeO_zero _ _ _ _ _)
      have HBe := Lib.hid (HB1.out.trans (HBr.out.mono HB1.out.size))
      clear hk hlt
      go_wp2_with fail
      go_ret2
      exact ⟨by rw [H1.out, H2.out, HF.out] <;> rfl, HBe.out⟩
end Go.Proofs.Ytikjefghpnffkaa
