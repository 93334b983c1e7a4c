/- The contracts of span.Check and span.In. -/
import Derived.Test.YthelnkoohbnjpaaDoorCronY
set_option linter.unusedVariables false
set_option linter.unusedSimpArgs false
namespace Go.Proofs.YthelnkoohbnjpaaDoor
open Go.RowKit
set_option linter.unusedVariables false
def spanE (a b : Cr) : Int := if a.ok then b.err else 1
def spanInB (a b : Cr) (sec shift : Int) : Bool := if spanE a b = 0 ∧ okTime sec shift then a.seekB sec shift (-1) && (!(b.seekB sec shift (-1)) || decide (b.seekN sec shift (-1) ≤ a.seekN sec shift (-1))) else false
def spanInE (a b : Cr) (sec shift : Int) : Int := if spanE a b = 0 then (if okTime sec shift then 0 else 1) else 1
set_option maxRecDepth 100000 in
set_option maxHeartbeats 1600000 in
theorem spanCheck (ai ah ad am aw bi bh bd bm bw : Nat) (aa ab ba bb : Bool) (ha : Cr.fits ⟨ai, ah, ad, am, aw, aa, ab⟩) (hb : Cr.fits ⟨bi, bh, bd, bm, bw, ba, bb⟩) (w : World) : Calls Tryd.prog 61 #[.agg #[.int .u64 (ai : Int), .int .u64 (ah : Int), .int .u64 (ad : Int), .int .u64 (am : Int), .int .u64 (aw : Int), .bool aa, .bool ab, .int .u64 (bi : Int), .int .u64 (bh : Int), .int .u64 (bd : Int), .int .u64 (bm : Int), .int .u64 (bw : Int), .bool ba, .bool bb]] w fun e w' => e = .returned (.int .i64 (spanE ⟨ai, ah, ad, am, aw, aa, ab⟩ ⟨bi, bh, bd, bm, bw, ba, bb⟩)) ∧ Below w.heap.size w w' := by
  have HCa := Lib.hid ha; have HCb := Lib.hid hb
  have HB := Lib.hid ((Below.refl w.heap.size w).alloc (Nat.le_refl _) (.cells #[.int .u64 (ai : Int), .int .u64 (ah : Int), .int .u64 (ad : Int), .int .u64 (am : Int), .int .u64 (aw : Int), .bool aa, .bool ab, .int .u64 (bi : Int), .int .u64 (bh : Int), .int .u64 (bd : Int), .int .u64 (bm : Int), .int .u64 (bw : Int), .bool ba, .bool bb] 80))
  have HX := Lib.hid (Tide.At.made w 80 #[.int .u64 (ai : Int), .int .u64 (ah : Int), .int .u64 (ad : Int), .int .u64 (am : Int), .int .u64 (aw : Int), .bool aa, .bool ab, .int .u64 (bi : Int), .int .u64 (bh : Int), .int .u64 (bd : Int), .int .u64 (bm : Int), .int .u64 (bw : Int), .bool ba, .bool bb])
  clear ha hb
  cases hok : Cr.ok ⟨ai, ah, ad, am, aw, aa, ab⟩
  · have he : Cr.err ⟨ai, ah, ad, am, aw, aa, ab⟩ = 1 := Cr.err_no hok
    have HE := Lib.hid (show spanE ⟨ai, ah, ad, am, aw, aa, ab⟩ ⟨bi, bh, bd, bm, bw, ba, bb⟩ = 1 by unfold spanE; rw [if_neg (by rw [hok]; simp)])
    clear hok
    go_enter Tryd.func61, Tryd.ntmps61
    go_wp2_with fail
    refine (cronCheck ⟨ai, ah, ad, am, aw, aa, ab⟩ HCa.out _).mono ?_
    rintro e w1 ⟨rfl, hb1⟩
    rw [he]
    have HF := Lib.hid (HB.out.trans (hb1.mono HB.out.size))
    clear hb1
    go_wp2_with fail
    go_ret
    exact ⟨by rw [HE.out] <;> rfl, HF.out⟩
  · have he : Cr.err ⟨ai, ah, ad, am, aw, aa, ab⟩ = 0 := Cr.err_yes hok
    have HE := Lib.hid (show spanE ⟨ai, ah, ad, am, aw, aa, ab⟩ ⟨bi, bh, bd, bm, bw, ba, bb⟩ = Cr.err ⟨bi, bh, bd, bm, bw, ba, bb⟩ by unfold spanE; rw [if_pos hok])
    clear hok
    go_enter Tryd.func61, Tryd.ntmps61
    go_wp2_with fail
    refine (cronCheck ⟨ai, ah, ad, am, aw, aa, ab⟩ HCa.out _).mono ?_
    rintro e w1 ⟨rfl, hb1⟩
    rw [he]
    have HB1 := Lib.hid (HB.out.trans (hb1.mono HB.out.size))
    have HX1 := Lib.hid (HX.out.below hb1 HX.out.inside)
    clear hb1
    have y0 := HX1.out.here (i := 7) rfl; have y1 := HX1.out.here (i := 8) rfl; have y2 := HX1.out.here (i := 9) rfl; have y3 := HX1.out.here (i := 10) rfl; have y4 := HX1.out.here (i := 11) rfl; have y5 := HX1.out.here (i := 12) rfl; have y6 := HX1.out.here (i := 13) rfl
    go_wp2_with fail
    refine (cronCheck ⟨bi, bh, bd, bm, bw, ba, bb⟩ HCb.out _).mono ?_
    rintro e w2 ⟨rfl, hb2⟩
    have HF := Lib.hid (HB1.out.trans (hb2.mono HB1.out.size))
    clear hb2 y0 y1 y2 y3 y4 y5 y6
    go_wp2_with fail
    go_ret
    exact ⟨by rw [HE.out] <;> rfl, HF.out⟩
end Go.Proofs.YthelnkoohbnjpaaDoor
