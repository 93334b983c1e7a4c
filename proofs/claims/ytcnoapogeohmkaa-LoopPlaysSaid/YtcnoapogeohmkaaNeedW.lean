/- The contract of the reference's Want; the walk of NeedSays. -/
import Derived.Test.YtcnoapogeohmkaaNeedR
import Derived.Test.YtcnoapogeohmkaaNeedD
set_option linter.unusedVariables false
set_option linter.unusedSimpArgs false
namespace Go.Proofs.Ytcnoapogeohmkaa
open Go.RowKit
set_option linter.unusedVariables false
theorem far_is {n f : Int} (h0 : 0 ≤ n) (h1 : n ≤ 1000000000000000) (h2 : -1000000000000000 ≤ f) (h3 : f ≤ 1000000000000000) : max (Tide.subc n f) (Tide.subc f n) = if Tide.clip (n - f) < 0 then -Tide.clip (n - f) else Tide.clip (n - f) := by
  have e : Tide.subc f n = -Tide.clip (n - f) := by
    unfold Tide.subc
    rw [Tide.clip_id (n := f) h2 h3, Tide.clip_id (n := n) (by omega) h1, show f - n = -(n - f) by omega, Tide.clip_neg]
  have e2 : Tide.subc n f = Tide.clip (n - f) := by
    unfold Tide.subc
    rw [Tide.clip_id (n := f) h2 h3, Tide.clip_id (n := n) (by omega) h1]
  rw [e, e2]
  split <;> omega
set_option maxRecDepth 100000 in
set_option maxHeartbeats 6400000 in
theorem refWant (ai ah ad am aw bi bh bd bm bw : Nat) (aa ab ba bb : Bool) (ha : Cr.fits ⟨ai, ah, ad, am, aw, aa, ab⟩) (hb : Cr.fits ⟨bi, bh, bd, bm, bw, ba, bb⟩) (now tol : Int) (kind target act : Int) (failed : Bool) (A : Option Addr) (cap : Nat) (xs : List Int) (w : World) (hx : NumsIn w A xs) (hl : xs.length ≤ 9223372036854775807) : Calls Try.prog 36 #[.int .i64 now, .int .i64 tol, .agg #[.int .i64 kind, .int .i64 target, .int .i64 act, .int .u64 (ai : Int), .int .u64 (ah : Int), .int .u64 (ad : Int), .int .u64 (am : Int), .int .u64 (aw : Int), .bool aa, .bool ab, .int .u64 (bi : Int), .int .u64 (bh : Int), .int .u64 (bd : Int), .int .u64 (bm : Int), .int .u64 (bw : Int), .bool ba, .bool bb], .agg #[.bool failed, .slice A xs.length cap]] w fun e w' => e = .returned (.tuple #[.int .i64 (wantR now tol kind target failed (Tide.metN kind (Tide.spot xs) xs.length) (needR ⟨ai, ah, ad, am, aw, aa, ab⟩ ⟨bi, bh, bd, bm, bw, ba, bb⟩ kind target act 0 0 failed (Tide.metN kind (Tide.spot xs) xs.length) ((Tide.metM kind (Tide.spot xs) xs.length : Nat) : Int)).1).1, .int .i64 (wantR now tol kind target failed (Tide.metN kind (Tide.spot xs) xs.length) (needR ⟨ai, ah, ad, am, aw, aa, ab⟩ ⟨bi, bh, bd, bm, bw, ba, bb⟩ kind target act 0 0 failed (Tide.metN kind (Tide.spot xs) xs.length) ((Tide.metM kind (Tide.spot xs) xs.length : Nat) : Int)).1).2]) ∧ Below w.heap.size w w' := by
  have HB := Lib.hid (((Below.refl w.heap.size w).alloc (Nat.le_refl _) (.cells #[.int .i64 kind, .int .i64 target, .int .i64 act, .int .u64 (ai : Int), .int .u64 (ah : Int), .int .u64 (ad : Int), .int .u64 (am : Int), .int .u64 (aw : Int), .bool aa, .bool ab, .int .u64 (bi : Int), .int .u64 (bh : Int), .int .u64 (bd : Int), .int .u64 (bm : Int), .int .u64 (bw : Int), .bool ba, .bool bb] 65)).alloc (by simp) (.cells #[.bool failed, .slice A xs.length cap] 40))
  have HT := Lib.hid ((Tide.At.made w 65 #[.int .i64 kind, .int .i64 target, .int .i64 act, .int .u64 (ai : Int), .int .u64 (ah : Int), .int .u64 (ad : Int), .int .u64 (am : Int), .int .u64 (aw : Int), .bool aa, .bool ab, .int .u64 (bi : Int), .int .u64 (bh : Int), .int .u64 (bd : Int), .int .u64 (bm : Int), .int .u64 (bw : Int), .bool ba, .bool bb]).alloc (.cells #[.bool failed, .slice A xs.length cap] 40))
  have hr := Tide.At.made (w.alloc (.cells #[.int .i64 kind, .int .i64 target, .int .i64 act, .int .u64 (ai : Int), .int .u64 (ah : Int), .int .u64 (ad : Int), .int .u64 (am : Int), .int .u64 (aw : Int), .bool aa, .bool ab, .int .u64 (bi : Int), .int .u64 (bh : Int), .int .u64 (bd : Int), .int .u64 (bm : Int), .int .u64 (bw : Int), .bool ba, .bool bb] 65)) 40 #[.bool failed, .slice A xs.length cap]
  simp only [World.size_alloc] at hr
  have HR := Lib.hid hr
  have HN := Lib.hid (hx.below HB.out (Nat.le_refl _))
  have HO := Lib.hid (fun (W : World) (hW : NumsIn W A xs) => refNeed ai ah ad am aw bi bh bd bm bw aa ab ba bb ha hb kind target act failed A cap xs 0 0 W hW hl)
  have HM := Lib.hid (fun (W : World) (hW : NumsIn W A xs) => refMetric ai ah ad am aw bi bh bd bm bw aa ab ba bb kind target act failed A cap xs W hW hl)
  clear hx hr ha hb hl
  obtain ⟨R, hR⟩ : ∃ R, (needR ⟨ai, ah, ad, am, aw, aa, ab⟩ ⟨bi, bh, bd, bm, bw, ba, bb⟩ kind target act 0 0 failed (Tide.metN kind (Tide.spot xs) xs.length) ((Tide.metM kind (Tide.spot xs) xs.length : Nat) : Int)) = R := ⟨_, rfl⟩
  rw [hR] at HO ⊢
  clear hR
  obtain ⟨r, hrr⟩ : ∃ r, (wantR now tol kind target failed (Tide.metN kind (Tide.spot xs) xs.length) R.1) = r := ⟨_, rfl⟩
  have HV := Lib.hid hrr
  rw [hrr]
  clear hrr
  go_enter Try.func36, Try.ntmps36
  go_upto_region 1 with fail
  generalize (w.alloc (.cells #[.int .i64 kind, .int .i64 target, .int .i64 act, .int .u64 (ai : Int), .int .u64 (ah : Int), .int .u64 (ad : Int), .int .u64 (am : Int), .int .u64 (aw : Int), .bool aa, .bool ab, .int .u64 (bi : Int), .int .u64 (bh : Int), .int .u64 (bd : Int), .int .u64 (bm : Int), .int .u64 (bw : Int), .bool ba, .bool bb] 65)).alloc (.cells #[.bool failed, .slice A xs.length cap] 40) = W at HB HT HR HN ⊢
  have z0 := HT.out.here (i := 0) rfl; have z1 := HT.out.here (i := 1) rfl; have z2 := HT.out.here (i := 2) rfl; have z3 := HT.out.here (i := 3) rfl; have z4 := HT.out.here (i := 4) rfl; have z5 := HT.out.here (i := 5) rfl; have z6 := HT.out.here (i := 6) rfl; have z7 := HT.out.here (i := 7) rfl; have z8 := HT.out.here (i := 8) rfl; have z9 := HT.out.here (i := 9) rfl; have z10 := HT.out.here (i := 10) rfl; have z11 := HT.out.here (i := 11) rfl; have z12 := HT.out.here (i := 12) rfl; have z13 := HT.out.here (i := 13) rfl; have z14 := HT.out.here (i := 14) rfl; have z15 := HT.out.here (i := 15) rfl; have z16 := HT.out.here (i := 16) rfl
  have r0 := HR.out.here (i := 0) rfl; have r1 := HR.out.here (i := 1) rfl
  by_cases k12 : 1 ≤ kind ∧ kind ≤ 2
  case neg =>
    have HF := Lib.hid (show r = (0, 1) by rw [← HV.out]; unfold wantR; rw [if_pos (.inl (by omega))])
    have HQ := Lib.hid (show kind < 1 ∨ 2 < kind by omega)
    clear k12
    go_wp2_with fail
    refine (refIn_no kind 1 2 _ HQ.out).mono ?_
    rintro e w' ⟨rfl, rfl⟩
    go_wp2_with fail
    go_ret2
    exact ⟨by rw [HF.out] <;> rfl, HB.out⟩
  have HK := Lib.hid k12
  clear k12
  go_wp2_with fail
  refine (refIn_yes kind 1 2 _ HK.out.1 HK.out.2).mono ?_
  rintro e w' ⟨rfl, rfl⟩
  by_cases b1 : target < 1
  · have HF := Lib.hid (show r = (0, 1) by rw [← HV.out]; unfold wantR; rw [if_pos (.inr (.inl b1))])
    go_wp2_with fail
    go_ret2
    exact ⟨by rw [HF.out] <;> rfl, HB.out⟩
  have b1' : 1 ≤ target := by omega
  have HB1' := Lib.hid b1'
  clear b1
  go_wp2_with fail
  by_cases b2 : 0 ≤ now ∧ now ≤ 50
  case neg =>
    have HF := Lib.hid (show r = (0, 1) by rw [← HV.out]; unfold wantR; rw [if_pos (by omega)])
    have HQ := Lib.hid (show now < 0 ∨ 50 < now by omega)
    clear b2
    refine (refIn_no now 0 50 _ HQ.out).mono ?_
    rintro e w' ⟨rfl, rfl⟩
    go_wp2_with fail
    go_ret2
    exact ⟨by rw [HF.out] <;> rfl, HB.out⟩
  obtain ⟨n0, n1⟩ := b2
  refine (refIn_yes now 0 50 _ n0 n1).mono ?_
  rintro e w' ⟨rfl, rfl⟩
  go_wp2_with fail
  by_cases b3 : 0 ≤ tol ∧ tol ≤ 1000
  case neg =>
    have HF := Lib.hid (show r = (0, 1) by rw [← HV.out]; unfold wantR; rw [if_pos (by omega)])
    have HQ := Lib.hid (show tol < 0 ∨ 1000 < tol by omega)
    clear b3
    refine (refIn_no tol 0 1000 _ HQ.out).mono ?_
    rintro e w' ⟨rfl, rfl⟩
    go_wp2_with fail
    go_ret2
    exact ⟨by rw [HF.out] <;> rfl, HB.out⟩
  obtain ⟨t0', t1'⟩ := b3
  have HV2 := Lib.hid (show r = if failed then (0, 4) else (if 0 < now ∧ max (Tide.subc (Tide.metN kind (Tide.spot xs) xs.length) (Tide.mulc now target)) (Tide.subc (Tide.mulc now target) (Tide.metN kind (Tide.spot xs) xs.length)) ≤ Tide.sharec (Tide.mulc now target) tol then now else R.1, 0) by
    rw [← HV.out]; unfold wantR; rw [if_neg (by have := HK.out; omega)])
  refine (refIn_yes tol 0 1000 _ t0' t1').mono ?_
  rintro e w' ⟨rfl, rfl⟩
  clear HV
  cases failed
  case true =>
    have HF := Lib.hid (show r = (0, 4) by rw [HV2.out]; rfl)
    go_wp2_with fail
    go_ret2
    exact ⟨by rw [HF.out] <;> rfl, HB.out⟩
  have HNb := Lib.hid (Tide.metN_bd kind (Tide.spot xs) xs.length)
  have HFb := Lib.hid (show -1000000000000000 ≤ Tide.mulc now target ∧ Tide.mulc now target ≤ 1000000000000000 from ⟨Tide.clip_lo _, Tide.clip_hi _⟩)
  have HFar := Lib.hid (far_is HNb.out.1 HNb.out.2 HFb.out.1 HFb.out.2)
  rw [HFar.out] at HV2
  clear HFar
  have HV3 := Lib.hid (show r = (if 0 < now ∧ (if Tide.clip (Tide.metN kind (Tide.spot xs) xs.length - Tide.mulc now target) < 0 then -Tide.clip (Tide.metN kind (Tide.spot xs) xs.length - Tide.mulc now target) else Tide.clip (Tide.metN kind (Tide.spot xs) xs.length - Tide.mulc now target)) ≤ Tide.sharec (Tide.mulc now target) tol then now else R.1, 0) by rw [HV2.out]; rfl)
  clear HV2
  go_wp2_with fail
  refine (HM.out _ HN.out).mono ?_
  rintro e w1 ⟨rfl, hb1⟩
  have HB1 := Lib.hid (HB.out.trans (hb1.mono HB.out.size))
  have HT1 := Lib.hid (HT.out.below hb1 HT.out.inside)
  have HR1 := Lib.hid (HR.out.below hb1 HR.out.inside)
  have HN1 := Lib.hid (HN.out.below hb1 (Nat.le_refl _))
  clear hb1 z0 z1 z2 z3 z4 z5 z6 z7 z8 z9 z10 z11 z12 z13 z14 z15 z16 r0 r1 HB HT HR HN HM
  generalize Tide.metN kind (Tide.spot xs) xs.length = N at HNb HV3 ⊢
  have z0 := HT1.out.here (i := 0) rfl; have z1 := HT1.out.here (i := 1) rfl; have z2 := HT1.out.here (i := 2) rfl; have z3 := HT1.out.here (i := 3) rfl; have z4 := HT1.out.here (i := 4) rfl; have z5 := HT1.out.here (i := 5) rfl; have z6 := HT1.out.here (i := 6) rfl; have z7 := HT1.out.here (i := 7) rfl; have z8 := HT1.out.here (i := 8) rfl; have z9 := HT1.out.here (i := 9) rfl; have z10 := HT1.out.here (i := 10) rfl; have z11 := HT1.out.here (i := 11) rfl; have z12 := HT1.out.here (i := 12) rfl; have z13 := HT1.out.here (i := 13) rfl; have z14 := HT1.out.here (i := 14) rfl; have z15 := HT1.out.here (i := 15) rfl; have z16 := HT1.out.here (i := 16) rfl
  have r0 := HR1.out.here (i := 0) rfl; have r1 := HR1.out.here (i := 1) rfl
  go_wp2_with fail
  refine (refMul now target _).mono ?_
  rintro e w2 ⟨rfl, rfl⟩
  generalize Tide.mulc now target = F at HFb HV3 ⊢
  have q0 := HNb.out.1; have q1 := HNb.out.2; have q2 := HFb.out.1; have q3 := HFb.out.2
  go_wp2_with fail
  refine (refClip (N - F) _).mono ?_
  rintro e w2 ⟨rfl, rfl⟩
  have c1 := Tide.clip_lo (N - F); have c2 := Tide.clip_hi (N - F)
  have HSh := Lib.hid (fun (W : World) => refShare F tol W)
  generalize Tide.clip (N - F) = D at HV3 c1 c2 ⊢
  generalize Tide.sharec F tol = S at HSh HV3
  clear q0 q1 q2 q3
  by_cases hd : D < 0
  · rw [if_pos hd] at HV3
    have HV4 := Lib.hid HV3.out
    clear HV3
    by_cases p0 : now = 0
    · have HF := Lib.hid (show r = (R.1, 0) by rw [HV4.out, if_neg (by omega)])
      subst p0
      clear n0 n1
      go_wp2_with fail
      refine (HO.out _ HN1.out).mono ?_
      rintro e w3 ⟨rfl, hb3⟩
      have HB3 := Lib.hid (HB1.out.trans (hb3.mono HB1.out.size))
      have HBx := Lib.hid (HB3.out.alloc HB3.out.size (.cells #[.int .i64 R.1, .bool R.2.1] 82))
      clear hb3 z0 z1 z2 z3 z4 z5 z6 z7 z8 z9 z10 z11 z12 z13 z14 z15 z16 r0 r1
      go_wp2_with fail
      go_ret2
      exact ⟨by rw [HF.out] <;> rfl, HBx.out⟩
    have p1 : (now != 0) = true := by simp [p0]
    by_cases p2 : -D ≤ S
    · have HF := Lib.hid (show r = (now, 0) by rw [HV4.out, if_pos ⟨by omega, p2⟩])
      clear p0 n0 n1
      go_wp2_with fail
      refine (HSh.out _).mono ?_
      rintro e w2 ⟨rfl, rfl⟩
      go_wp2_with fail
      go_ret2
      exact ⟨by rw [HF.out] <;> rfl, HB1.out⟩
    · have HF := Lib.hid (show r = (R.1, 0) by rw [HV4.out, if_neg (fun h => p2 h.2)])
      have p3 : S < -D := by omega
      clear p0 n0 n1 p2
      go_wp2_with fail
      refine (HSh.out _).mono ?_
      rintro e w2 ⟨rfl, rfl⟩
      go_wp2_with fail
      refine (HO.out _ HN1.out).mono ?_
      rintro e w3 ⟨rfl, hb3⟩
      have HB3 := Lib.hid (HB1.out.trans (hb3.mono HB1.out.size))
      have HBx := Lib.hid (HB3.out.alloc HB3.out.size (.cells #[.int .i64 R.1, .bool R.2.1] 82))
      clear hb3 z0 z1 z2 z3 z4 z5 z6 z7 z8 z9 z10 z11 z12 z13 z14 z15 z16 r0 r1
      go_wp2_with fail
      go_ret2
      exact ⟨by rw [HF.out] <;> rfl, HBx.out⟩
  · rw [if_neg hd] at HV3
    have HV4 := Lib.hid HV3.out
    have hd' : 0 ≤ D := by omega
    clear HV3 hd
    by_cases p0 : now = 0
    · have HF := Lib.hid (show r = (R.1, 0) by rw [HV4.out, if_neg (by omega)])
      subst p0
      clear n0 n1
      go_wp2_with fail
      refine (HO.out _ HN1.out).mono ?_
      rintro e w3 ⟨rfl, hb3⟩
      have HB3 := Lib.hid (HB1.out.trans (hb3.mono HB1.out.size))
      have HBx := Lib.hid (HB3.out.alloc HB3.out.size (.cells #[.int .i64 R.1, .bool R.2.1] 82))
      clear hb3 z0 z1 z2 z3 z4 z5 z6 z7 z8 z9 z10 z11 z12 z13 z14 z15 z16 r0 r1
      go_wp2_with fail
      go_ret2
      exact ⟨by rw [HF.out] <;> rfl, HBx.out⟩
    have p1 : (now != 0) = true := by simp [p0]
    by_cases p2 : D ≤ S
    · have HF := Lib.hid (show r = (now, 0) by rw [HV4.out, if_pos ⟨by omega, p2⟩])
      clear p0 n0 n1
      go_wp2_with fail
      refine (HSh.out _).mono ?_
      rintro e w2 ⟨rfl, rfl⟩
      go_wp2_with fail
      go_ret2
      exact ⟨by rw [HF.out] <;> rfl, HB1.out⟩
    · have HF := Lib.hid (show r = (R.1, 0) by rw [HV4.out, if_neg (fun h => p2 h.2)])
      have p3 : S < D := by omega
      clear p0 n0 n1 p2
      go_wp2_with fail
      refine (HSh.out _).mono ?_
      rintro e w2 ⟨rfl, rfl⟩
      go_wp2_with fail
      refine (HO.out _ HN1.out).mono ?_
      rintro e w3 ⟨rfl, hb3⟩
      have HB3 := Lib.hid (HB1.out.trans (hb3.mono HB1.out.size))
      have HBx := Lib.hid (HB3.out.alloc HB3.out.size (.cells #[.int .i64 R.1, .bool R.2.1] 82))
      clear hb3 z0 z1 z2 z3 z4 z5 z6 z7 z8 z9 z10 z11 z12 z13 z14 z15 z16 r0 r1
      go_wp2_with fail
      go_ret2
      exact ⟨by rw [HF.out] <;> rfl, HBx.out⟩
end Go.Proofs.Ytcnoapogeohmkaa
