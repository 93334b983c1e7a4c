/- The contracts of package plan: pace, trigger. -/
import Derived.Test.YtoidcbpcnikejaaGreatDoorDq11
set_option linter.unusedVariables false
set_option linter.unusedSimpArgs false
set_option maxRecDepth 100000
set_option maxHeartbeats 12800000
namespace Go.Proofs.YtoidcbpcnikejaaGreatDoor
open Go.RowKit
theorem planPace (a b c d : Int) (w : World) : Calls Tryz.prog 120 #[.agg #[.int .i64 a, .int .i64 b, .int .i64 c, .int .i64 d]] w fun e w' => e = .returned (.bool (paceOk ⟨a, b, c, d⟩)) ∧ Below w.heap.size w w' := by
 have HV := J (show paceOk ⟨a, b, c, d⟩ = (wiB a 0 100000 && (wiB b 0 50 && (wiB c 0 1000 && wiB d 0 100000))) from rfl)
 have HB := J ((Below.refl w.heap.size w).alloc (Nat.le_refl _) (.cells #[.int .i64 a, .int .i64 b, .int .i64 c, .int .i64 d] 98))
 have HX := J (G.At.made w 98 #[.int .i64 a, .int .i64 b, .int .i64 c, .int .i64 d])
 go_enter Tryz.func120, Tryz.ntmps120
 go_upto_region 1 with fail
 generalize w.alloc (.cells #[.int .i64 a, .int .i64 b, .int .i64 c, .int .i64 d] 98) = W at HB HX ⊢
 have x0 := HX.u.here (i := 0) rfl; have x1 := HX.u.here (i := 1) rfl; have x2 := HX.u.here (i := 2) rfl; have x3 := HX.u.here (i := 3) rfl
 go_wp2_with fail
 refine (planWithin a 0 100000 _).mono ?_
 rintro e w' ⟨rfl, rfl⟩
 generalize wiB a 0 100000 = x0 at HV ⊢
 cases x0
 ·go_wp2_with fail
  go_ret
  exact ⟨by rw [HV.u] <;> rfl, HB.u⟩
 go_wp2_with fail
 refine (planWithin b 0 50 _).mono ?_
 rintro e w' ⟨rfl, rfl⟩
 generalize wiB b 0 50 = x1 at HV ⊢
 cases x1
 ·go_wp2_with fail
  go_ret
  exact ⟨by rw [HV.u] <;> rfl, HB.u⟩
 go_wp2_with fail
 refine (planWithin c 0 1000 _).mono ?_
 rintro e w' ⟨rfl, rfl⟩
 generalize wiB c 0 1000 = x2 at HV ⊢
 cases x2
 ·go_wp2_with fail
  go_ret
  exact ⟨by rw [HV.u] <;> rfl, HB.u⟩
 go_wp2_with fail
 refine (planWithin d 0 100000 _).mono ?_
 rintro e w' ⟨rfl, rfl⟩
 generalize wiB d 0 100000 = x3 at HV ⊢
 go_wp2_with fail
 go_ret
 exact ⟨by rw [HV.u] <;> rfl, HB.u⟩
theorem planTrigger (ai ah ad am aw bi bh bd bm bw : Nat) (aa ab ba bb : Bool) (ha : Cr.fits ⟨ai, ah, ad, am, aw, aa, ab⟩) (hb : Cr.fits ⟨bi, bh, bd, bm, bw, ba, bb⟩) (kind target act : Int) (w : World) : Calls Tryz.prog 121 #[.agg #[.int .i64 kind, .int .i64 target, .int .i64 act, .int .u64 (ai : Int), .int .u64 (ah : Int), .int .u64 (ad : Int), .int .u64 (am : Int), .int .u64 (aw : Int), .bool aa, .bool ab, .int .u64 (bi : Int), .int .u64 (bh : Int), .int .u64 (bd : Int), .int .u64 (bm : Int), .int .u64 (bw : Int), .bool ba, .bool bb]] w fun e w' => e = .returned (.int .i64 (trigE ⟨kind, target, act, ⟨ai, ah, ad, am, aw, aa, ab⟩, ⟨bi, bh, bd, bm, bw, ba, bb⟩⟩)) ∧ Below w.heap.size w w' := by
 have HB := J ((Below.refl w.heap.size w).alloc (Nat.le_refl _) (.cells #[.int .i64 kind, .int .i64 target, .int .i64 act, .int .u64 (ai : Int), .int .u64 (ah : Int), .int .u64 (ad : Int), .int .u64 (am : Int), .int .u64 (aw : Int), .bool aa, .bool ab, .int .u64 (bi : Int), .int .u64 (bh : Int), .int .u64 (bd : Int), .int .u64 (bm : Int), .int .u64 (bw : Int), .bool ba, .bool bb] 171))
 have HX := J (G.At.made w 171 #[.int .i64 kind, .int .i64 target, .int .i64 act, .int .u64 (ai : Int), .int .u64 (ah : Int), .int .u64 (ad : Int), .int .u64 (am : Int), .int .u64 (aw : Int), .bool aa, .bool ab, .int .u64 (bi : Int), .int .u64 (bh : Int), .int .u64 (bd : Int), .int .u64 (bm : Int), .int .u64 (bw : Int), .bool ba, .bool bb])
 have HS := J (fun (W : World) => spanCheck ai ah ad am aw bi bh bd bm bw aa ab ba bb ha hb W)
 obtain ⟨R, hR⟩ : ∃ R, trigE ⟨kind, target, act, ⟨ai, ah, ad, am, aw, aa, ab⟩, ⟨bi, bh, bd, bm, bw, ba, bb⟩⟩ = R := ⟨_, rfl⟩
 rw [hR]
 have HR := J hR
 clear hR ha hb
 go_enter Tryz.func121, Tryz.ntmps121
 go_upto_region 1 with fail
 generalize w.alloc (.cells #[.int .i64 kind, .int .i64 target, .int .i64 act, .int .u64 (ai : Int), .int .u64 (ah : Int), .int .u64 (ad : Int), .int .u64 (am : Int), .int .u64 (aw : Int), .bool aa, .bool ab, .int .u64 (bi : Int), .int .u64 (bh : Int), .int .u64 (bd : Int), .int .u64 (bm : Int), .int .u64 (bw : Int), .bool ba, .bool bb] 171) = W at HB HX ⊢
 have z0 := HX.u.here (i := 0) rfl; have z1 := HX.u.here (i := 1) rfl; have z2 := HX.u.here (i := 2) rfl; have z3 := HX.u.here (i := 3) rfl; have z4 := HX.u.here (i := 4) rfl; have z5 := HX.u.here (i := 5) rfl; have z6 := HX.u.here (i := 6) rfl; have z7 := HX.u.here (i := 7) rfl; have z8 := HX.u.here (i := 8) rfl; have z9 := HX.u.here (i := 9) rfl; have z10 := HX.u.here (i := 10) rfl; have z11 := HX.u.here (i := 11) rfl; have z12 := HX.u.here (i := 12) rfl; have z13 := HX.u.here (i := 13) rfl; have z14 := HX.u.here (i := 14) rfl; have z15 := HX.u.here (i := 15) rfl; have z16 := HX.u.here (i := 16) rfl
 by_cases k12 : kind = 1 ∨ kind = 2
 ·have HV := J (show R = (if wiB target 1 1000000 && (wiB act 0 1000000 && (Cr.isZero ⟨ai, ah, ad, am, aw, aa, ab⟩ && Cr.isZero ⟨bi, bh, bd, bm, bw, ba, bb⟩)) then 0 else 1) by rw [← HR.u]; unfold trigE; rw [if_pos k12])
  rcases k12 with hk | hk
  all_goals
   subst hk
   go_wp2_with fail
   refine (planWithin target 1 1000000 _).mono ?_
   rintro e w' ⟨rfl, rfl⟩
   generalize wiB target 1 1000000 = x0 at HV ⊢
   cases x0
   ·go_wp2_with fail
    go_ret
    exact ⟨by rw [HV.u] <;> rfl, HB.u⟩
   go_wp2_with fail
   refine (planWithin act 0 1000000 _).mono ?_
   rintro e w' ⟨rfl, rfl⟩
   generalize wiB act 0 1000000 = x1 at HV ⊢
   cases x1
   ·go_wp2_with fail
    go_ret
    exact ⟨by rw [HV.u] <;> rfl, HB.u⟩
   go_upto_block 5 with fail
   go_wp2_with fail
   all_goals
    go_ret
    refine ⟨?_, HB.u⟩
    clear z0 z1 z2 z3 z4 z5 z6 z7 z8 z9 z10 z11 z12 z13 z14 z15 z16
    rw [HV.u]
    unfold Cr.isZero
    simp [*]
 by_cases k3 : kind = 3
 ·have HV := J (show R = (if wiB target 1 50 && act == 0 then spanE ⟨ai, ah, ad, am, aw, aa, ab⟩ ⟨bi, bh, bd, bm, bw, ba, bb⟩ else 1) by rw [← HR.u]; unfold trigE; rw [if_neg k12]; exact if_pos k3)
  subst k3
  clear k12
  go_wp2_with fail
  refine (planWithin target 1 50 _).mono ?_
  rintro e w' ⟨rfl, rfl⟩
  generalize wiB target 1 50 = x0 at HV ⊢
  cases x0
  ·go_wp2_with fail
   go_ret
   exact ⟨by rw [HV.u] <;> rfl, HB.u⟩
  by_cases ha : act = 0
  ·have HV2 := J (show R = spanE ⟨ai, ah, ad, am, aw, aa, ab⟩ ⟨bi, bh, bd, bm, bw, ba, bb⟩ by rw [HV.u, ha]; rfl)
   subst ha
   go_wp2_with fail
   refine (HS.u _).mono ?_
   rintro e w2 ⟨rfl, hb2⟩
   have HF := J (HB.u.trans (hb2.mono HB.u.size))
   clear hb2 z0 z1 z2 z3 z4 z5 z6 z7 z8 z9 z10 z11 z12 z13 z14 z15 z16
   go_wp2_with fail
   go_ret
   exact ⟨by rw [HV2.u] <;> rfl, HF.u⟩
  have h1 : (act == 0) = false := by simpa using ha
  have h2 : (act != 0) = true := by simpa using ha
  have HV2 := J (show R = 1 by rw [HV.u, h1]; rfl)
  clear h1 ha
  go_wp2_with fail
  go_ret
  exact ⟨by rw [HV2.u] <;> rfl, HB.u⟩
 have HV := J (show R = 1 by rw [← HR.u]; unfold trigE; rw [if_neg k12]; exact if_neg k3)
 have k1 : (kind == 1) = false := by simp; omega
 have k2 : (kind == 2) = false := by simp; omega
 have k4 : (kind == 3) = false := by simpa using k3
 clear k12 k3
 go_wp2_with fail
 go_ret
 exact ⟨by rw [HV.u] <;> rfl, HB.u⟩
end Go.Proofs.YtoidcbpcnikejaaGreatDoor
