/- The walk of CronSeeks. -/
import Derived.Test.YtikjefghpnffkaaSpanR
namespace Go.Proofs.Ytikjefghpnffkaa
open Go.RowKit
set_option linter.unusedVariables false
set_option maxRecDepth 100000 in
set_option maxHeartbeats 6400000 in
theorem cronSeeks_walk (c : Cr) (hf : c.fits) (sec shift : Int) (w : World) : Calls Try.prog 3 #[.agg c.cells, .int .i64 sec, .int .i64 shift] w fun e w' => e = .returned (.bool true) ∧ Below w.heap.size w w' := by
  obtain ⟨ai, ah, ad, am, aw, aa, ab⟩ := c
  have HB := Lib.hid ((Below.refl w.heap.size w).alloc (Nat.le_refl _) (.cells #[.int .u64 (ai : Int), .int .u64 (ah : Int), .int .u64 (ad : Int), .int .u64 (am : Int), .int .u64 (aw : Int), .bool aa, .bool ab] 24))
  have HX := Lib.hid (Tide.At.made w 24 #[.int .u64 (ai : Int), .int .u64 (ah : Int), .int .u64 (ad : Int), .int .u64 (am : Int), .int .u64 (aw : Int), .bool aa, .bool ab])
  have HC := Lib.hid (fun (W : World) => refCron ⟨ai, ah, ad, am, aw, aa, ab⟩ hf W)
  have HNx := Lib.hid (fun (W : World) => cronNext ⟨ai, ah, ad, am, aw, aa, ab⟩ hf sec shift W)
  have HLa := Lib.hid (fun (W : World) => cronLast ⟨ai, ah, ad, am, aw, aa, ab⟩ hf sec shift W)
  unfold Cr.cells at *
  by_cases hok : Cr.ok ⟨ai, ah, ad, am, aw, aa, ab⟩ = true
  · have hce : Cr.err ⟨ai, ah, ad, am, aw, aa, ab⟩ = 0 := Cr.err_yes hok
    by_cases hot : okTime sec shift
    · have hse : Cr.seekE ⟨ai, ah, ad, am, aw, aa, ab⟩ sec shift = 0 := by unfold Cr.seekE; rw [if_pos hok, if_pos hot]
      have HO := Lib.hid (fun (W : World) => refOf_yes sec shift W hot)
      have HRn := Lib.hid (fun (W : World) => refNext ⟨ai, ah, ad, am, aw, aa, ab⟩ hf sec shift W hot hok)
      have HRl := Lib.hid (fun (W : World) => refLast ⟨ai, ah, ad, am, aw, aa, ab⟩ hf sec shift W hot hok)
      rw [hce] at HC
      rw [hse] at HNx HLa
      unfold Cr.cells at *
      generalize Cr.seekN ⟨ai, ah, ad, am, aw, aa, ab⟩ sec shift 1 = n1 at HRn HNx
      generalize Cr.seekB ⟨ai, ah, ad, am, aw, aa, ab⟩ sec shift 1 = b1 at HRn HNx
      generalize Cr.seekN ⟨ai, ah, ad, am, aw, aa, ab⟩ sec shift (-1) = n2 at HRl HLa
      generalize Cr.seekB ⟨ai, ah, ad, am, aw, aa, ab⟩ sec shift (-1) = b2 at HRl HLa
      clear hok hot hce hse hf
      have x0 := HX.out.here (i := 0) rfl; have x1 := HX.out.here (i := 1) rfl; have x2 := HX.out.here (i := 2) rfl; have x3 := HX.out.here (i := 3) rfl; have x4 := HX.out.here (i := 4) rfl; have x5 := HX.out.here (i := 5) rfl; have x6 := HX.out.here (i := 6) rfl
      go_enter Try.func3, Try.ntmps3
      go_wp2_with fail
      refine (HC.out _).mono ?_
      rintro e w1 ⟨rfl, hb1⟩
      have HB1 := Lib.hid (HB.out.trans (hb1.mono HB.out.size))
      have Hx1 := Lib.hid (HX.out.below hb1 HX.out.inside)
      clear hb1 x0 x1 x2 x3 x4 x5 x6
      have x0 := Hx1.out.here (i := 0) rfl; have x1 := Hx1.out.here (i := 1) rfl; have x2 := Hx1.out.here (i := 2) rfl; have x3 := Hx1.out.here (i := 3) rfl; have x4 := Hx1.out.here (i := 4) rfl; have x5 := Hx1.out.here (i := 5) rfl; have x6 := Hx1.out.here (i := 6) rfl
      go_wp2_with fail
      refine (HO.out _).mono ?_
      rintro e w2 ⟨rfl, hb2⟩
      have HB2 := Lib.hid (HB1.out.trans (hb2.mono HB1.out.size))
      have Hx2 := Lib.hid (Hx1.out.below hb2 Hx1.out.inside)
      clear hb2 x0 x1 x2 x3 x4 x5 x6
      have x0 := Hx2.out.here (i := 0) rfl; have x1 := Hx2.out.here (i := 1) rfl; have x2 := Hx2.out.here (i := 2) rfl; have x3 := Hx2.out.here (i := 3) rfl; have x4 := Hx2.out.here (i := 4) rfl; have x5 := Hx2.out.here (i := 5) rfl; have x6 := Hx2.out.here (i := 6) rfl
      go_wp2_with fail
      refine (HRn.out _).mono ?_
      rintro e w3 ⟨rfl, hb3⟩
      have HB3 := Lib.hid (HB2.out.trans (hb3.mono HB2.out.size))
      have Hx3 := Lib.hid (Hx2.out.below hb3 Hx2.out.inside)
      clear hb3 x0 x1 x2 x3 x4 x5 x6
      have x0 := Hx3.out.here (i := 0) rfl; have x1 := Hx3.out.here (i := 1) rfl; have x2 := Hx3.out.here (i := 2) rfl; have x3 := Hx3.out.here (i := 3) rfl; have x4 := Hx3.out.here (i := 4) rfl; have x5 := Hx3.out.here (i := 5) rfl; have x6 := Hx3.out.here (i := 6) rfl
      go_wp2_with fail
      refine (HRl.out _).mono ?_
      rintro e w4 ⟨rfl, hb4⟩
      have HB4 := Lib.hid (HB3.out.trans (hb4.mono HB3.out.size))
      have Hx4 := Lib.hid (Hx3.out.below hb4 Hx3.out.inside)
      clear hb4 x0 x1 x2 x3 x4 x5 x6
      have x0 := Hx4.out.here (i := 0) rfl; have x1 := Hx4.out.here (i := 1) rfl; have x2 := Hx4.out.here (i := 2) rfl; have x3 := Hx4.out.here (i := 3) rfl; have x4 := Hx4.out.here (i := 4) rfl; have x5 := Hx4.out.here (i := 5) rfl; have x6 := Hx4.out.here (i := 6) rfl
      go_wp2_with fail
      refine (HNx.out _).mono ?_
      rintro e w5 ⟨rfl, hb5⟩
      have HB5 := Lib.hid (HB4.out.trans (hb5.mono HB4.out.size))
      have Hx5 := Lib.hid (Hx4.out.below hb5 Hx4.out.inside)
      clear hb5 x0 x1 x2 x3 x4 x5 x6
      have x0 := Hx5.out.here (i := 0) rfl; have x1 := Hx5.out.here (i := 1) rfl; have x2 := Hx5.out.here (i := 2) rfl; have x3 := Hx5.out.here (i := 3) rfl; have x4 := Hx5.out.here (i := 4) rfl; have x5 := Hx5.out.here (i := 5) rfl; have x6 := Hx5.out.here (i := 6) rfl
      go_wp2_with fail
      refine (HLa.out _).mono ?_
      rintro e w6 ⟨rfl, hb6⟩
      have HB6 := Lib.hid (HB5.out.trans (hb6.mono HB5.out.size))
      have Hx6 := Lib.hid (Hx5.out.below hb6 Hx5.out.inside)
      clear hb6 x0 x1 x2 x3 x4 x5 x6
      have x0 := Hx6.out.here (i := 0) rfl; have x1 := Hx6.out.here (i := 1) rfl; have x2 := Hx6.out.here (i := 2) rfl; have x3 := Hx6.out.here (i := 3) rfl; have x4 := Hx6.out.here (i := 4) rfl; have x5 := Hx6.out.here (i := 5) rfl; have x6 := Hx6.out.here (i := 6) rfl
      go_wp2_with fail
      go_ret
      exact ⟨rfl, HB6.out⟩
    · have hse : Cr.seekE ⟨ai, ah, ad, am, aw, aa, ab⟩ sec shift = 1 := by unfold Cr.seekE; rw [if_pos hok, if_neg hot]
      have hn : ∀ side, Cr.seekN ⟨ai, ah, ad, am, aw, aa, ab⟩ sec shift side = 0 := fun side => by unfold Cr.seekN; rw [if_neg (fun h => hot h.2)]
      have hbb : ∀ side, Cr.seekB ⟨ai, ah, ad, am, aw, aa, ab⟩ sec shift side = false := fun side => by unfold Cr.seekB; rw [if_neg (fun h => hot h.2)]
      have HO := Lib.hid (fun (W : World) => refOf_no sec shift W hot)
      rw [hce] at HC
      rw [hse, hn, hbb] at HNx HLa
      clear hok hot hce hse hf hn hbb
      have x0 := HX.out.here (i := 0) rfl; have x1 := HX.out.here (i := 1) rfl; have x2 := HX.out.here (i := 2) rfl; have x3 := HX.out.here (i := 3) rfl; have x4 := HX.out.here (i := 4) rfl; have x5 := HX.out.here (i := 5) rfl; have x6 := HX.out.here (i := 6) rfl
      go_enter Try.func3, Try.ntmps3
      go_wp2_with fail
      refine (HC.out _).mono ?_
      rintro e w1 ⟨rfl, hb1⟩
      have HB1 := Lib.hid (HB.out.trans (hb1.mono HB.out.size))
      have Hx1 := Lib.hid (HX.out.below hb1 HX.out.inside)
      clear hb1 x0 x1 x2 x3 x4 x5 x6
      have x0 := Hx1.out.here (i := 0) rfl; have x1 := Hx1.out.here (i := 1) rfl; have x2 := Hx1.out.here (i := 2) rfl; have x3 := Hx1.out.here (i := 3) rfl; have x4 := Hx1.out.here (i := 4) rfl; have x5 := Hx1.out.here (i := 5) rfl; have x6 := Hx1.out.here (i := 6) rfl
      go_wp2_with fail
      refine (HO.out _).mono ?_
      rintro e w2 ⟨rfl, hb2⟩
      have HB2 := Lib.hid (HB1.out.trans (hb2.mono HB1.out.size))
      have Hx2 := Lib.hid (Hx1.out.below hb2 Hx1.out.inside)
      clear hb2 x0 x1 x2 x3 x4 x5 x6
      have x0 := Hx2.out.here (i := 0) rfl; have x1 := Hx2.out.here (i := 1) rfl; have x2 := Hx2.out.here (i := 2) rfl; have x3 := Hx2.out.here (i := 3) rfl; have x4 := Hx2.out.here (i := 4) rfl; have x5 := Hx2.out.here (i := 5) rfl; have x6 := Hx2.out.here (i := 6) rfl
      go_wp2_with fail
      refine (HNx.out _).mono ?_
      rintro e w3 ⟨rfl, hb3⟩
      have HB3 := Lib.hid (HB2.out.trans (hb3.mono HB2.out.size))
      have Hx3 := Lib.hid (Hx2.out.below hb3 Hx2.out.inside)
      clear hb3 x0 x1 x2 x3 x4 x5 x6
      have x0 := Hx3.out.here (i := 0) rfl; have x1 := Hx3.out.here (i := 1) rfl; have x2 := Hx3.out.here (i := 2) rfl; have x3 := Hx3.out.here (i := 3) rfl; have x4 := Hx3.out.here (i := 4) rfl; have x5 := Hx3.out.here (i := 5) rfl; have x6 := Hx3.out.here (i := 6) rfl
      go_wp2_with fail
      refine (HLa.out _).mono ?_
      rintro e w4 ⟨rfl, hb4⟩
      have HB4 := Lib.hid (HB3.out.trans (hb4.mono HB3.out.size))
      have Hx4 := Lib.hid (Hx3.out.below hb4 Hx3.out.inside)
      clear hb4 x0 x1 x2 x3 x4 x5 x6
      have x0 := Hx4.out.here (i := 0) rfl; have x1 := Hx4.out.here (i := 1) rfl; have x2 := Hx4.out.here (i := 2) rfl; have x3 := Hx4.out.here (i := 3) rfl; have x4 := Hx4.out.here (i := 4) rfl; have x5 := Hx4.out.here (i := 5) rfl; have x6 := Hx4.out.here (i := 6) rfl
      go_wp2_with fail
      go_ret
      exact ⟨rfl, HB4.out⟩
  · have hce : Cr.err ⟨ai, ah, ad, am, aw, aa, ab⟩ = 1 := Cr.err_no (by simpa using hok)
    have hse : Cr.seekE ⟨ai, ah, ad, am, aw, aa, ab⟩ sec shift = 1 := by unfold Cr.seekE; rw [if_neg hok]
    have hn : ∀ side, Cr.seekN ⟨ai, ah, ad, am, aw, aa, ab⟩ sec shift side = 0 := fun side => by unfold Cr.seekN; rw [if_neg (fun h => hok h.1)]
    have hbb : ∀ side, Cr.seekB ⟨ai, ah, ad, am, aw, aa, ab⟩ sec shift side = false := fun side => by unfold Cr.seekB; rw [if_neg (fun h => hok h.1)]
    rw [hce] at HC
    rw [hse, hn, hbb] at HNx HLa
    clear hok hce hse hf hn hbb
    have x0 := HX.out.here (i := 0) rfl; have x1 := HX.out.here (i := 1) rfl; have x2 := HX.out.here (i := 2) rfl; have x3 := HX.out.here (i := 3) rfl; have x4 := HX.out.here (i := 4) rfl; have x5 := HX.out.here (i := 5) rfl; have x6 := HX.out.here (i := 6) rfl
    go_enter Try.func3, Try.ntmps3
    go_wp2_with fail
    refine (HC.out _).mono ?_
    rintro e w1 ⟨rfl, hb1⟩
    have HB1 := Lib.hid (HB.out.trans (hb1.mono HB.out.size))
    have Hx1 := Lib.hid (HX.out.below hb1 HX.out.inside)
    clear hb1 x0 x1 x2 x3 x4 x5 x6
    have x0 := Hx1.out.here (i := 0) rfl; have x1 := Hx1.out.here (i := 1) rfl; have x2 := Hx1.out.here (i := 2) rfl; have x3 := Hx1.out.here (i := 3) rfl; have x4 := Hx1.out.here (i := 4) rfl; have x5 := Hx1.out.here (i := 5) rfl; have x6 := Hx1.out.here (i := 6) rfl
    go_wp2_with fail
    refine (HNx.out _).mono ?_
    rintro e w2 ⟨rfl, hb2⟩
    have HB2 := Lib.hid (HB1.out.trans (hb2.mono HB1.out.size))
    have Hx2 := Lib.hid (Hx1.out.below hb2 Hx1.out.inside)
    clear hb2 x0 x1 x2 x3 x4 x5 x6
    have x0 := Hx2.out.here (i := 0) rfl; have x1 := Hx2.out.here (i := 1) rfl; have x2 := Hx2.out.here (i := 2) rfl; have x3 := Hx2.out.here (i := 3) rfl; have x4 := Hx2.out.here (i := 4) rfl; have x5 := Hx2.out.here (i := 5) rfl; have x6 := Hx2.out.here (i := 6) rfl
    go_wp2_with fail
    refine (HLa.out _).mono ?_
    rintro e w3 ⟨rfl, hb3⟩
    have HB3 := Lib.hid (HB2.out.trans (hb3.mono HB2.out.size))
    have Hx3 := Lib.hid (Hx2.out.below hb3 Hx2.out.inside)
    clear hb3 x0 x1 x2 x3 x4 x5 x6
    have x0 := Hx3.out.here (i := 0) rfl; have x1 := Hx3.out.here (i := 1) rfl; have x2 := Hx3.out.here (i := 2) rfl; have x3 := Hx3.out.here (i := 3) rfl; have x4 := Hx3.out.here (i := 4) rfl; have x5 := Hx3.out.here (i := 5) rfl; have x6 := Hx3.out.here (i := 6) rfl
    go_wp2_with fail
    go_ret
    exact ⟨rfl, HB3.out⟩
end Go.Proofs.Ytikjefghpnffkaa
