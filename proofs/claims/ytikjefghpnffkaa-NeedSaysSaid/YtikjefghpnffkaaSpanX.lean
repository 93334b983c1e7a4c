/- The contract of span.Edge. -/
import Derived.Test.YtikjefghpnffkaaSpanP
namespace Go.Proofs.Ytikjefghpnffkaa
open Go.RowKit
set_option linter.unusedVariables false
theorem put7 {W w0 : World} {h g B : Nat} {t t' : TypeId} {cs : Array Value} {y0 y1 y2 y3 y4 y5 y6 : Value} (hx : Tide.At W h t cs) (hy : Tide.At W g t' #[y0, y1, y2, y3, y4, y5, y6]) (hn : h ≠ g) (hb : Below B w0 W) (hg : B ≤ g) (u0 u1 u2 u3 u4 u5 u6 : Value) :
    Tide.At ((((((((W).setCell ⟨g, 0, none⟩ u0).setCell ⟨g, 1, none⟩ u1).setCell ⟨g, 2, none⟩ u2).setCell ⟨g, 3, none⟩ u3).setCell ⟨g, 4, none⟩ u4).setCell ⟨g, 5, none⟩ u5).setCell ⟨g, 6, none⟩ u6) h t cs ∧ Tide.At ((((((((W).setCell ⟨g, 0, none⟩ u0).setCell ⟨g, 1, none⟩ u1).setCell ⟨g, 2, none⟩ u2).setCell ⟨g, 3, none⟩ u3).setCell ⟨g, 4, none⟩ u4).setCell ⟨g, 5, none⟩ u5).setCell ⟨g, 6, none⟩ u6) g t' #[u0, u1, u2, u3, u4, u5, u6] ∧ Below B w0 ((((((((W).setCell ⟨g, 0, none⟩ u0).setCell ⟨g, 1, none⟩ u1).setCell ⟨g, 2, none⟩ u2).setCell ⟨g, 3, none⟩ u3).setCell ⟨g, 4, none⟩ u4).setCell ⟨g, 5, none⟩ u5).setCell ⟨g, 6, none⟩ u6) :=
  ⟨(((((((hx).other (p := ⟨g, 0, none⟩) hn u0).other (p := ⟨g, 1, none⟩) hn u1).other (p := ⟨g, 2, none⟩) hn u2).other (p := ⟨g, 3, none⟩) hn u3).other (p := ⟨g, 4, none⟩) hn u4).other (p := ⟨g, 5, none⟩) hn u5).other (p := ⟨g, 6, none⟩) hn u6, by
    have p0 : Tide.At ((W).setCell ⟨g, 0, none⟩ u0) g t' #[u0, y1, y2, y3, y4, y5, y6] := hy.put 0 u0
    have p1 : Tide.At (((W).setCell ⟨g, 0, none⟩ u0).setCell ⟨g, 1, none⟩ u1) g t' #[u0, u1, y2, y3, y4, y5, y6] := p0.put 1 u1
    have p2 : Tide.At ((((W).setCell ⟨g, 0, none⟩ u0).setCell ⟨g, 1, none⟩ u1).setCell ⟨g, 2, none⟩ u2) g t' #[u0, u1, u2, y3, y4, y5, y6] := p1.put 2 u2
    have p3 : Tide.At (((((W).setCell ⟨g, 0, none⟩ u0).setCell ⟨g, 1, none⟩ u1).setCell ⟨g, 2, none⟩ u2).setCell ⟨g, 3, none⟩ u3) g t' #[u0, u1, u2, u3, y4, y5, y6] := p2.put 3 u3
    have p4 : Tide.At ((((((W).setCell ⟨g, 0, none⟩ u0).setCell ⟨g, 1, none⟩ u1).setCell ⟨g, 2, none⟩ u2).setCell ⟨g, 3, none⟩ u3).setCell ⟨g, 4, none⟩ u4) g t' #[u0, u1, u2, u3, u4, y5, y6] := p3.put 4 u4
    have p5 : Tide.At (((((((W).setCell ⟨g, 0, none⟩ u0).setCell ⟨g, 1, none⟩ u1).setCell ⟨g, 2, none⟩ u2).setCell ⟨g, 3, none⟩ u3).setCell ⟨g, 4, none⟩ u4).setCell ⟨g, 5, none⟩ u5) g t' #[u0, u1, u2, u3, u4, u5, y6] := p4.put 5 u5
    have p6 : Tide.At ((((((((W).setCell ⟨g, 0, none⟩ u0).setCell ⟨g, 1, none⟩ u1).setCell ⟨g, 2, none⟩ u2).setCell ⟨g, 3, none⟩ u3).setCell ⟨g, 4, none⟩ u4).setCell ⟨g, 5, none⟩ u5).setCell ⟨g, 6, none⟩ u6) g t' #[u0, u1, u2, u3, u4, u5, u6] := p5.put 6 u6
    exact p6, (((((((hb).setCell (p := ⟨g, 0, none⟩) hg u0).setCell (p := ⟨g, 1, none⟩) hg u1).setCell (p := ⟨g, 2, none⟩) hg u2).setCell (p := ⟨g, 3, none⟩) hg u3).setCell (p := ⟨g, 4, none⟩) hg u4).setCell (p := ⟨g, 5, none⟩) hg u5).setCell (p := ⟨g, 6, none⟩) hg u6⟩
set_option maxRecDepth 100000 in
set_option maxHeartbeats 6400000 in
theorem spanEdge (ai ah ad am aw bi bh bd bm bw : Nat) (aa ab ba bb : Bool) (ha : Cr.fits ⟨ai, ah, ad, am, aw, aa, ab⟩) (hb : Cr.fits ⟨bi, bh, bd, bm, bw, ba, bb⟩) (sec shift : Int) (w : World) : Calls Try.prog 26 #[.agg #[.int .u64 (ai : Int), .int .u64 (ah : Int), .int .u64 (ad : Int), .int .u64 (am : Int), .int .u64 (aw : Int), .bool aa, .bool ab, .int .u64 (bi : Int), .int .u64 (bh : Int), .int .u64 (bd : Int), .int .u64 (bm : Int), .int .u64 (bw : Int), .bool ba, .bool bb], .int .i64 sec, .int .i64 shift] w fun e w' => e = .returned (.tuple #[.int .i64 (edgeN ⟨ai, ah, ad, am, aw, aa, ab⟩ ⟨bi, bh, bd, bm, bw, ba, bb⟩ sec shift), .bool (edgeB ⟨ai, ah, ad, am, aw, aa, ab⟩ ⟨bi, bh, bd, bm, bw, ba, bb⟩ sec shift), .int .i64 (spanInE ⟨ai, ah, ad, am, aw, aa, ab⟩ ⟨bi, bh, bd, bm, bw, ba, bb⟩ sec shift)]) ∧ Below w.heap.size w w' := by
  have HB := Lib.hid ((Below.refl w.heap.size w).alloc (Nat.le_refl _) (.cells #[.int .u64 (ai : Int), .int .u64 (ah : Int), .int .u64 (ad : Int), .int .u64 (am : Int), .int .u64 (aw : Int), .bool aa, .bool ab, .int .u64 (bi : Int), .int .u64 (bh : Int), .int .u64 (bd : Int), .int .u64 (bm : Int), .int .u64 (bw : Int), .bool ba, .bool bb] 42))
  have HX := Lib.hid (Tide.At.made w 42 #[.int .u64 (ai : Int), .int .u64 (ah : Int), .int .u64 (ad : Int), .int .u64 (am : Int), .int .u64 (aw : Int), .bool aa, .bool ab, .int .u64 (bi : Int), .int .u64 (bh : Int), .int .u64 (bd : Int), .int .u64 (bm : Int), .int .u64 (bw : Int), .bool ba, .bool bb])
  have HI := Lib.hid (fun (n : Int) (W : World) => spanIn ai ah ad am aw bi bh bd bm bw aa ab ba bb ha hb n shift W)
  have HNa := Lib.hid (fun (n : Int) (W : World) => cronNext ⟨ai, ah, ad, am, aw, aa, ab⟩ ha n shift W)
  have HNb := Lib.hid (fun (n : Int) (W : World) => cronNext ⟨bi, bh, bd, bm, bw, ba, bb⟩ hb n shift W)
  clear ha hb
  by_cases hg : spanE ⟨ai, ah, ad, am, aw, aa, ab⟩ ⟨bi, bh, bd, bm, bw, ba, bb⟩ = 0 ∧ okTime sec shift
  case neg =>
    have hE : spanInE ⟨ai, ah, ad, am, aw, aa, ab⟩ ⟨bi, bh, bd, bm, bw, ba, bb⟩ sec shift = 1 := by
      unfold spanInE
      by_cases h : spanE ⟨ai, ah, ad, am, aw, aa, ab⟩ ⟨bi, bh, bd, bm, bw, ba, bb⟩ = 0
      · rw [if_pos h, if_neg (fun c => hg ⟨h, c⟩)]
      · rw [if_neg h]
    have H1 := Lib.hid (show edgeN ⟨ai, ah, ad, am, aw, aa, ab⟩ ⟨bi, bh, bd, bm, bw, ba, bb⟩ sec shift = 0 by unfold edgeN; rw [if_neg hg])
    have H2 := Lib.hid (show edgeB ⟨ai, ah, ad, am, aw, aa, ab⟩ ⟨bi, bh, bd, bm, bw, ba, bb⟩ sec shift = false by unfold edgeB; rw [if_neg hg])
    have H3 := Lib.hid hE
    clear hg hE
    go_enter Try.func26, Try.ntmps26
    go_wp2_with fail
    refine (HI.out sec _).mono ?_
    rintro e w1 ⟨rfl, hb1⟩
    rw [H3.out]
    have HF := Lib.hid (HB.out.trans (hb1.mono HB.out.size))
    clear hb1
    go_wp2_with fail
    go_ret3
    exact ⟨by rw [H1.out, H2.out, H3.out] <;> rfl, HF.out⟩
  obtain ⟨hE, hot⟩ := hg
  have HE := Lib.hid hE; have HOt := Lib.hid hot
  have H1 := Lib.hid (show edgeN ⟨ai, ah, ad, am, aw, aa, ab⟩ ⟨bi, bh, bd, bm, bw, ba, bb⟩ sec shift = (edgeO ⟨ai, ah, ad, am, aw, aa, ab⟩ ⟨bi, bh, bd, bm, bw, ba, bb⟩ shift (inAt ⟨ai, ah, ad, am, aw, aa, ab⟩ ⟨bi, bh, bd, bm, bw, ba, bb⟩ shift sec) 200 sec).getD 0 by unfold edgeN; rw [if_pos ⟨hE, hot⟩])
  have H2 := Lib.hid (show edgeB ⟨ai, ah, ad, am, aw, aa, ab⟩ ⟨bi, bh, bd, bm, bw, ba, bb⟩ sec shift = (edgeO ⟨ai, ah, ad, am, aw, aa, ab⟩ ⟨bi, bh, bd, bm, bw, ba, bb⟩ shift (inAt ⟨ai, ah, ad, am, aw, aa, ab⟩ ⟨bi, bh, bd, bm, bw, ba, bb⟩ shift sec) 200 sec).isSome by unfold edgeB; rw [if_pos ⟨hE, hot⟩])
  have H3 := Lib.hid (spanInE_is hE hot)
  have h4 := spanInB_is hE hot
  have HOa := Lib.hid (spanE_ok hE).1; have HOb := Lib.hid (spanE_ok hE).2
  clear hE hot
  go_enter Try.func26, Try.ntmps26
  go_wp2_with fail
  refine (HI.out sec _).mono ?_
  rintro e w1 ⟨rfl, hb1⟩
  rw [H3.out, h4]
  have HB1 := Lib.hid (HB.out.trans (hb1.mono HB.out.size))
  have HX1 := Lib.hid (HX.out.below hb1 HX.out.inside)
  clear hb1 h4 HB HX
  obtain ⟨now, hnow⟩ : ∃ now, inAt ⟨ai, ah, ad, am, aw, aa, ab⟩ ⟨bi, bh, bd, bm, bw, ba, bb⟩ shift sec = now := ⟨_, rfl⟩
  rw [hnow] at H1 H2 ⊢
  have z0 := HX1.out.here (i := 0) rfl; have z1 := HX1.out.here (i := 1) rfl; have z2 := HX1.out.here (i := 2) rfl; have z3 := HX1.out.here (i := 3) rfl; have z4 := HX1.out.here (i := 4) rfl; have z5 := HX1.out.here (i := 5) rfl; have z6 := HX1.out.here (i := 6) rfl; have z7 := HX1.out.here (i := 7) rfl; have z8 := HX1.out.here (i := 8) rfl; have z9 := HX1.out.here (i := 9) rfl; have z10 := HX1.out.here (i := 10) rfl; have z11 := HX1.out.here (i := 11) rfl; have z12 := HX1.out.here (i := 12) rfl; have z13 := HX1.out.here (i := 13) rfl
  go_upto_region 5 with fail
  have HB2 := Lib.hid (HB1.out.alloc HB1.out.size (.cells #[.int .u64 (ai : Int), .int .u64 (ah : Int), .int .u64 (ad : Int), .int .u64 (am : Int), .int .u64 (aw : Int), .bool aa, .bool ab] 24))
  have HX2 := Lib.hid (HX1.out.alloc (.cells #[.int .u64 (ai : Int), .int .u64 (ah : Int), .int .u64 (ad : Int), .int .u64 (am : Int), .int .u64 (aw : Int), .bool aa, .bool ab] 24))
  have HY2 := Lib.hid (Tide.At.made w1 24 #[.int .u64 (ai : Int), .int .u64 (ah : Int), .int .u64 (ad : Int), .int .u64 (am : Int), .int .u64 (aw : Int), .bool aa, .bool ab])
  have hlt := HX1.out.inside
  obtain ⟨g, hgv⟩ : ∃ g, g = w1.heap.size := ⟨_, rfl⟩
  have HG := Lib.hid (show w.heap.size ≤ g by rw [hgv]; have := HB1.out.size; omega)
  have HN := Lib.hid (show w.heap.size ≠ g by rw [hgv]; omega)
  rw [← hgv] at HY2 ⊢
  generalize w1.alloc (.cells #[.int .u64 (ai : Int), .int .u64 (ah : Int), .int .u64 (ad : Int), .int .u64 (am : Int), .int .u64 (aw : Int), .bool aa, .bool ab] 24) = W at HB2 HX2 HY2 ⊢
  clear z0 z1 z2 z3 z4 z5 z6 z7 z8 z9 z10 z11 z12 z13 hlt hgv HB1 HX1
  cases now
  case false =>
    have z0 := HX2.out.here (i := 0) rfl; have z1 := HX2.out.here (i := 1) rfl; have z2 := HX2.out.here (i := 2) rfl; have z3 := HX2.out.here (i := 3) rfl; have z4 := HX2.out.here (i := 4) rfl; have z5 := HX2.out.here (i := 5) rfl; have z6 := HX2.out.here (i := 6) rfl; have z7 := HX2.out.here (i := 7) rfl; have z8 := HX2.out.here (i := 8) rfl; have z9 := HX2.out.here (i := 9) rfl; have z10 := HX2.out.here (i := 10) rfl; have z11 := HX2.out.here (i := 11) rfl; have z12 := HX2.out.here (i := 12) rfl; have z13 := HX2.out.here (i := 13) rfl
    go_upto_region 7 with fail
    have HB3 := HB2; have HX3 := HX2; have HY3 := HY2
    clear HB2 HX2 HY2 z0 z1 z2 z3 z4 z5 z6 z7 z8 z9 z10 z11 z12 z13 HG HN
    obtain ⟨W3, hW3⟩ : ∃ W3, W3 = W := ⟨_, rfl⟩
    rw [← hW3] at HB3 HX3 HY3 ⊢
    clear hW3
    go_wp2_with fail
    go_loopw [1, 32] (fun x y wr => ∃ k : Nat, k ≤ 200 ∧ ∃ s : Int, x = .int .i64 s ∧ y = .int .i64 k ∧ Hid (okTime s shift) ∧ Hid (edgeO ⟨ai, ah, ad, am, aw, aa, ab⟩ ⟨bi, bh, bd, bm, bw, ba, bb⟩ shift false 200 sec = edgeO ⟨ai, ah, ad, am, aw, aa, ab⟩ ⟨bi, bh, bd, bm, bw, ba, bb⟩ shift false (200 - k) s) ∧ Hid (Below W3.heap.size W3 wr)) (fun _ y _ => 200 - (intOf y).toNat)
    case atStart => exact ⟨0, by omega, sec, rfl, rfl, HOt, Lib.hid rfl, Lib.hid (Below.refl _ _)⟩
    case round =>
      obtain ⟨k, hk, s, rfl, rfl, HS, HEd, HBr⟩ := hrel
      by_cases hlt : k < 200
      · have HX4 := Lib.hid (HX3.out.below HBr.out HX3.out.inside)
        have HY4 := Lib.hid (HY3.out.below HBr.out HY3.out.inside)
        have y0 := HY4.out.here (i := 0) rfl; have y1 := HY4.out.here (i := 1) rfl; have y2 := HY4.out.here (i := 2) rfl; have y3 := HY4.out.here (i := 3) rfl; have y4 := HY4.out.here (i := 4) rfl; have y5 := HY4.out.here (i := 5) rfl; have y6 := HY4.out.here (i := 6) rfl
        have c1 : (k : Int) < 200 := by omega
        go_wp2_with fail
        refine (HNa.out s _).mono ?_
        rintro e w5 ⟨rfl, hb5⟩
        have HB5 := Lib.hid (HBr.out.trans (hb5.mono HBr.out.size))
        have HX5 := Lib.hid (HX4.out.below hb5 HX4.out.inside)
        have HBe5 := Lib.hid (HB3.out.trans (HB5.out.mono HB3.out.size))
        clear y0 y1 y2 y3 y4 y5 y6 hb5 HX4 HY4
        have HEs := Lib.hid (show Cr.seekE ⟨ai, ah, ad, am, aw, aa, ab⟩ s shift = 0 by unfold Cr.seekE; rw [if_pos HOa.out, if_pos HS.out])
        rw [HEs.out]
        have HR := Lib.hid (show 200 - k = (200 - (k + 1)) + 1 by omega)
        cases hq : Cr.seekO ⟨ai, ah, ad, am, aw, aa, ab⟩ s shift 1 with
        | none =>
          have HF := Lib.hid (show edgeO ⟨ai, ah, ad, am, aw, aa, ab⟩ ⟨bi, bh, bd, bm, bw, ba, bb⟩ shift false 200 sec = none by rw [HEd.out, HR.out]; exact edgeO_none hq)
          rw [show Cr.seekB ⟨ai, ah, ad, am, aw, aa, ab⟩ s shift 1 = false by unfold Cr.seekB; rw [if_pos ⟨HOa.out, HS.out⟩, hq]; rfl]
          clear hq hlt hk
          go_wp2_with fail
          go_ret3
          exact ⟨by rw [H1.out, H2.out, H3.out, HF.out] <;> rfl, HBe5.out⟩
        | some n =>
          have HS2 := Lib.hid (Cr.up_time HS.out hq)
          have HF := Lib.hid (show edgeO ⟨ai, ah, ad, am, aw, aa, ab⟩ ⟨bi, bh, bd, bm, bw, ba, bb⟩ shift false 200 sec = if (inAt ⟨ai, ah, ad, am, aw, aa, ab⟩ ⟨bi, bh, bd, bm, bw, ba, bb⟩ shift n == false) = true then edgeO ⟨ai, ah, ad, am, aw, aa, ab⟩ ⟨bi, bh, bd, bm, bw, ba, bb⟩ shift false (200 - (k + 1)) n else some n by rw [HEd.out, HR.out]; exact edgeO_some hq)
          rw [show Cr.seekB ⟨ai, ah, ad, am, aw, aa, ab⟩ s shift 1 = true by unfold Cr.seekB; rw [if_pos ⟨HOa.out, HS.out⟩, hq]; rfl, show Cr.seekN ⟨ai, ah, ad, am, aw, aa, ab⟩ s shift 1 = n by unfold Cr.seekN; rw [if_pos ⟨HOa.out, HS.out⟩, hq]; rfl]
          clear hq
          have z0 := HX5.out.here (i := 0) rfl; have z1 := HX5.out.here (i := 1) rfl; have z2 := HX5.out.here (i := 2) rfl; have z3 := HX5.out.here (i := 3) rfl; have z4 := HX5.out.here (i := 4) rfl; have z5 := HX5.out.here (i := 5) rfl; have z6 := HX5.out.here (i := 6) rfl; have z7 := HX5.out.here (i := 7) rfl; have z8 := HX5.out.here (i := 8) rfl; have z9 := HX5.out.here (i := 9) rfl; have z10 := HX5.out.here (i := 10) rfl; have z11 := HX5.out.here (i := 11) rfl; have z12 := HX5.out.here (i := 12) rfl; have z13 := HX5.out.here (i := 13) rfl
          go_wp2_with fail
          refine (HI.out n _).mono ?_
          rintro e w6 ⟨rfl, hb6⟩
          have HB6 := Lib.hid (HB5.out.trans (hb6.mono HB5.out.size))
          have HBe6 := Lib.hid (HB3.out.trans (HB6.out.mono HB3.out.size))
          clear z0 z1 z2 z3 z4 z5 z6 z7 z8 z9 z10 z11 z12 z13 hb6 HX5
          rw [spanInE_is HE.out HS2.out, spanInB_is HE.out HS2.out]
          cases hi : inAt ⟨ai, ah, ad, am, aw, aa, ab⟩ ⟨bi, bh, bd, bm, bw, ba, bb⟩ shift n with
          | false =>
            have HG2 := Lib.hid (show edgeO ⟨ai, ah, ad, am, aw, aa, ab⟩ ⟨bi, bh, bd, bm, bw, ba, bb⟩ shift false 200 sec = edgeO ⟨ai, ah, ad, am, aw, aa, ab⟩ ⟨bi, bh, bd, bm, bw, ba, bb⟩ shift false (200 - (k + 1)) n by rw [HF.out, hi]; rfl)
            clear hi
            go_wp2_with fail
            go_roundw
            case rel => exact ⟨k + 1, by omega, n, rfl, by go_num, HS2, HG2, HB6⟩
            case measure => simp [intOf]; omega
          | true =>
            have HG2 := Lib.hid (show edgeO ⟨ai, ah, ad, am, aw, aa, ab⟩ ⟨bi, bh, bd, bm, bw, ba, bb⟩ shift false 200 sec = some n by rw [HF.out, hi]; rfl)
            clear hi hlt hk
            go_wp2_with fail
            go_ret3
            exact ⟨by rw [H1.out, H2.out, H3.out, HG2.out] <;> rfl, HBe6.out⟩
      · have hie : k = 200 := by omega
        subst hie
        have HF := Lib.hid (show edgeO ⟨ai, ah, ad, am, aw, aa, ab⟩ ⟨bi, bh, bd, bm, bw, ba, bb⟩ shift false 200 sec = none by rw [HEd.out]; exact edgeO_zero _ _ _ _ _)
        have HBe := Lib.hid (HB3.out.trans (HBr.out.mono HB3.out.size))
        go_wp2_with fail
        go_ret3
        exact ⟨by rw [H1.out, H2.out, H3.out, HF.out] <;> rfl, HBe.out⟩
  case true =>
    have z0 := HX2.out.here (i := 0) rfl; have z1 := HX2.out.here (i := 1) rfl; have z2 := HX2.out.here (i := 2) rfl; have z3 := HX2.out.here (i := 3) rfl; have z4 := HX2.out.here (i := 4) rfl; have z5 := HX2.out.here (i := 5) rfl; have z6 := HX2.out.here (i := 6) rfl; have z7 := HX2.out.here (i := 7) rfl; have z8 := HX2.out.here (i := 8) rfl; have z9 := HX2.out.here (i := 9) rfl; have z10 := HX2.out.here (i := 10) rfl; have z11 := HX2.out.here (i := 11) rfl; have z12 := HX2.out.here (i := 12) rfl; have z13 := HX2.out.here (i := 13) rfl
    have y0 := HY2.out.here (i := 0) rfl; have y1 := HY2.out.here (i := 1) rfl; have y2 := HY2.out.here (i := 2) rfl; have y3 := HY2.out.here (i := 3) rfl; have y4 := HY2.out.here (i := 4) rfl; have y5 := HY2.out.here (i := 5) rfl; have y6 := HY2.out.here (i := 6) rfl
    have f0 := HY2.out.soft 0; have f1 := HY2.out.soft 1; have f2 := HY2.out.soft 2; have f3 := HY2.out.soft 3; have f4 := HY2.out.soft 4; have f5 := HY2.out.soft 5; have f6 := HY2.out.soft 6
    go_upto_region 7 with fail
    have h3 := put7 HX2.out HY2.out HN.out HB2.out HG.out (.int .u64 (bi : Int)) (.int .u64 (bh : Int)) (.int .u64 (bd : Int)) (.int .u64 (bm : Int)) (.int .u64 (bw : Int)) (.bool ba) (.bool bb)
    obtain ⟨HX3, HY3, HB3⟩ : Hid _ ∧ Hid _ ∧ Hid _ := ⟨Lib.hid h3.1, Lib.hid h3.2.1, Lib.hid h3.2.2⟩
    clear z0 z1 z2 z3 z4 z5 z6 z7 z8 z9 z10 z11 z12 z13 y0 y1 y2 y3 y4 y5 y6 f0 f1 f2 f3 f4 f5 f6 HB2 HX2 HY2 HG HN h3
    obtain ⟨W3, hW3⟩ : ∃ W3, W3 = (((((((W).setCell ⟨g, 0, none⟩ (.int .u64 (bi : Int))).setCell ⟨g, 1, none⟩ (.int .u64 (bh : Int))).setCell ⟨g, 2, none⟩ (.int .u64 (bd : Int))).setCell ⟨g, 3, none⟩ (.int .u64 (bm : Int))).setCell ⟨g, 4, none⟩ (.int .u64 (bw : Int))).setCell ⟨g, 5, none⟩ (.bool ba)).setCell ⟨g, 6, none⟩ (.bool bb) := ⟨_, rfl⟩
    rw [← hW3] at HB3 HX3 HY3 ⊢
    clear hW3
    go_wp2_with fail
    go_loopw [1, 32] (fun x y wr => ∃ k : Nat, k ≤ 200 ∧ ∃ s : Int, x = .int .i64 s ∧ y = .int .i64 k ∧ Hid (okTime s shift) ∧ Hid (edgeO ⟨ai, ah, ad, am, aw, aa, ab⟩ ⟨bi, bh, bd, bm, bw, ba, bb⟩ shift true 200 sec = edgeO ⟨ai, ah, ad, am, aw, aa, ab⟩ ⟨bi, bh, bd, bm, bw, ba, bb⟩ shift true (200 - k) s) ∧ Hid (Below W3.heap.size W3 wr)) (fun _ y _ => 200 - (intOf y).toNat)
    case atStart => exact ⟨0, by omega, sec, rfl, rfl, HOt, Lib.hid rfl, Lib.hid (Below.refl _ _)⟩
    case round =>
      obtain ⟨k, hk, s, rfl, rfl, HS, HEd, HBr⟩ := hrel
      by_cases hlt : k < 200
      · have HX4 := Lib.hid (HX3.out.below HBr.out HX3.out.inside)
        have HY4 := Lib.hid (HY3.out.below HBr.out HY3.out.inside)
        have y0 := HY4.out.here (i := 0) rfl; have y1 := HY4.out.here (i := 1) rfl; have y2 := HY4.out.here (i := 2) rfl; have y3 := HY4.out.here (i := 3) rfl; have y4 := HY4.out.here (i := 4) rfl; have y5 := HY4.out.here (i := 5) rfl; have y6 := HY4.out.here (i := 6) rfl
        have c1 : (k : Int) < 200 := by omega
        go_wp2_with fail
        refine (HNb.out s _).mono ?_
        rintro e w5 ⟨rfl, hb5⟩
        have HB5 := Lib.hid (HBr.out.trans (hb5.mono HBr.out.size))
        have HX5 := Lib.hid (HX4.out.below hb5 HX4.out.inside)
        have HBe5 := Lib.hid (HB3.out.trans (HB5.out.mono HB3.out.size))
        clear y0 y1 y2 y3 y4 y5 y6 hb5 HX4 HY4
        have HEs := Lib.hid (show Cr.seekE ⟨bi, bh, bd, bm, bw, ba, bb⟩ s shift = 0 by unfold Cr.seekE; rw [if_pos HOb.out, if_pos HS.out])
        rw [HEs.out]
        have HR := Lib.hid (show 200 - k = (200 - (k + 1)) + 1 by omega)
        cases hq : Cr.seekO ⟨bi, bh, bd, bm, bw, ba, bb⟩ s shift 1 with
        | none =>
          have HF := Lib.hid (show edgeO ⟨ai, ah, ad, am, aw, aa, ab⟩ ⟨bi, bh, bd, bm, bw, ba, bb⟩ shift true 200 sec = none by rw [HEd.out, HR.out]; exact edgeO_none hq)
          rw [show Cr.seekB ⟨bi, bh, bd, bm, bw, ba, bb⟩ s shift 1 = false by unfold Cr.seekB; rw [if_pos ⟨HOb.out, HS.out⟩, hq]; rfl]
          clear hq hlt hk
          go_wp2_with fail
          go_ret3
          exact ⟨by rw [H1.out, H2.out, H3.out, HF.out] <;> rfl, HBe5.out⟩
        | some n =>
          have HS2 := Lib.hid (Cr.up_time HS.out hq)
          have HF := Lib.hid (show edgeO ⟨ai, ah, ad, am, aw, aa, ab⟩ ⟨bi, bh, bd, bm, bw, ba, bb⟩ shift true 200 sec = if (inAt ⟨ai, ah, ad, am, aw, aa, ab⟩ ⟨bi, bh, bd, bm, bw, ba, bb⟩ shift n == true) = true then edgeO ⟨ai, ah, ad, am, aw, aa, ab⟩ ⟨bi, bh, bd, bm, bw, ba, bb⟩ shift true (200 - (k + 1)) n else some n by rw [HEd.out, HR.out]; exact edgeO_some hq)
          rw [show Cr.seekB ⟨bi, bh, bd, bm, bw, ba, bb⟩ s shift 1 = true by unfold Cr.seekB; rw [if_pos ⟨HOb.out, HS.out⟩, hq]; rfl, show Cr.seekN ⟨bi, bh, bd, bm, bw, ba, bb⟩ s shift 1 = n by unfold Cr.seekN; rw [if_pos ⟨HOb.out, HS.out⟩, hq]; rfl]
          clear hq
          have z0 := HX5.out.here (i := 0) rfl; have z1 := HX5.out.here (i := 1) rfl; have z2 := HX5.out.here (i := 2) rfl; have z3 := HX5.out.here (i := 3) rfl; have z4 := HX5.out.here (i := 4) rfl; have z5 := HX5.out.here (i := 5) rfl; have z6 := HX5.out.here (i := 6) rfl; have z7 := HX5.out.here (i := 7) rfl; have z8 := HX5.out.here (i := 8) rfl; have z9 := HX5.out.here (i := 9) rfl; have z10 := HX5.out.here (i := 10) rfl; have z11 := HX5.out.here (i := 11) rfl; have z12 := HX5.out.here (i := 12) rfl; have z13 := HX5.out.here (i := 13) rfl
          go_wp2_with fail
          refine (HI.out n _).mono ?_
          rintro e w6 ⟨rfl, hb6⟩
          have HB6 := Lib.hid (HB5.out.trans (hb6.mono HB5.out.size))
          have HBe6 := Lib.hid (HB3.out.trans (HB6.out.mono HB3.out.size))
          clear z0 z1 z2 z3 z4 z5 z6 z7 z8 z9 z10 z11 z12 z13 hb6 HX5
          rw [spanInE_is HE.out HS2.out, spanInB_is HE.out HS2.out]
          cases hi : inAt ⟨ai, ah, ad, am, aw, aa, ab⟩ ⟨bi, bh, bd, bm, bw, ba, bb⟩ shift n with
          | true =>
            have HG2 := Lib.hid (show edgeO ⟨ai, ah, ad, am, aw, aa, ab⟩ ⟨bi, bh, bd, bm, bw, ba, bb⟩ shift true 200 sec = edgeO ⟨ai, ah, ad, am, aw, aa, ab⟩ ⟨bi, bh, bd, bm, bw, ba, bb⟩ shift true (200 - (k + 1)) n by rw [HF.out, hi]; rfl)
            clear hi
            go_wp2_with fail
            go_roundw
            case rel => exact ⟨k + 1, by omega, n, rfl, by go_num, HS2, HG2, HB6⟩
            case measure => simp [intOf]; omega
          | false =>
            have HG2 := Lib.hid (show edgeO ⟨ai, ah, ad, am, aw, aa, ab⟩ ⟨bi, bh, bd, bm, bw, ba, bb⟩ shift true 200 sec = some n by rw [HF.out, hi]; rfl)
            clear hi hlt hk
            go_wp2_with fail
            go_ret3
            exact ⟨by rw [H1.out, H2.out, H3.out, HG2.out] <;> rfl, HBe6.out⟩
      · have hie : k = 200 := by omega
        subst hie
        have HF := Lib.hid (show edgeO ⟨ai, ah, ad, am, aw, aa, ab⟩ ⟨bi, bh, bd, bm, bw, ba, bb⟩ shift true 200 sec = none by rw [HEd.out]; exact edgeO_zero _ _ _ _ _)
        have HBe := Lib.hid (HB3.out.trans (HBr.out.mono HB3.out.size))
        go_wp2_with fail
        go_ret3
        exact ⟨by rw [H1.out, H2.out, H3.out, HF.out] <;> rfl, HBe.out⟩
end Go.Proofs.Ytikjefghpnffkaa
