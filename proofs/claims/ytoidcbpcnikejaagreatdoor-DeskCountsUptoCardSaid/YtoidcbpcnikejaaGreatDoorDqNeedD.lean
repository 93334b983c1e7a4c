/- The contract of need.Want. -/
import Derived.Test.YtoidcbpcnikejaaGreatDoorDqNeedC
set_option linter.unusedVariables false
set_option linter.unusedSimpArgs false
set_option maxRecDepth 100000
set_option maxHeartbeats 12800000
namespace Go.Proofs.YtoidcbpcnikejaaGreatDoor
open Go.RowKit
def wantR (now tol kind target : Int) (failed : Bool) (n pods : Int) : Int × Int :=
 if (kind ≠ 1 ∧ kind ≠ 2) ∨ target < 1 ∨ now < 0 ∨ 50 < now ∨ tol < 0 ∨ 1000 < tol then (0, 1)
 else if failed then (0, 4)
 else (if 0 < now ∧ max (G.subc n (G.mulc now target)) (G.subc (G.mulc now target) n) ≤ G.sharec (G.mulc now target) tol then now else pods, 0)
theorem need_err {a b : Cr} {kind target act sec shift : Int} {failed : Bool} {n many : Int} (hk : kind = 1 ∨ kind = 2) (ht : 1 ≤ target) : (needR a b kind target act sec shift failed n many).2.2 = if failed then 4 else 0 := by
 unfold needR
 rw [if_neg (by omega), if_neg (by omega)]
 cases failed <;> rfl
theorem needWant (ai ah ad am aw bi bh bd bm bw : Nat) (aa ab ba bb : Bool) (ha : Cr.fits ⟨ai, ah, ad, am, aw, aa, ab⟩) (hb : Cr.fits ⟨bi, bh, bd, bm, bw, ba, bb⟩) (now tol kind target act : Int) (failed : Bool) (A : Option Addr) (cap : Nat) (xs : List Int) (w : World) (hx : NumsIn w A xs) (hl : xs.length ≤ 9223372036854775807) : Calls Tryz.prog 192 #[.int .i64 now, .int .i64 tol, .agg #[.int .i64 kind, .int .i64 target, .int .i64 act, .int .u64 (ai : Int), .int .u64 (ah : Int), .int .u64 (ad : Int), .int .u64 (am : Int), .int .u64 (aw : Int), .bool aa, .bool ab, .int .u64 (bi : Int), .int .u64 (bh : Int), .int .u64 (bd : Int), .int .u64 (bm : Int), .int .u64 (bw : Int), .bool ba, .bool bb], .agg #[.bool failed, .slice A xs.length cap]] w fun e w' => e = .returned (.tuple #[.int .i64 (wantR now tol kind target failed (G.metN kind (G.spot xs) xs.length) (needR ⟨ai, ah, ad, am, aw, aa, ab⟩ ⟨bi, bh, bd, bm, bw, ba, bb⟩ kind target act 0 0 failed (G.metN kind (G.spot xs) xs.length) ((G.metM kind (G.spot xs) xs.length : Nat) : Int)).1).1, .int .i64 (wantR now tol kind target failed (G.metN kind (G.spot xs) xs.length) (needR ⟨ai, ah, ad, am, aw, aa, ab⟩ ⟨bi, bh, bd, bm, bw, ba, bb⟩ kind target act 0 0 failed (G.metN kind (G.spot xs) xs.length) ((G.metM kind (G.spot xs) xs.length : Nat) : Int)).1).2]) ∧ Below w.heap.size w w' := by
 have HB := J (((Below.refl w.heap.size w).alloc (Nat.le_refl _) (.cells #[.int .i64 kind, .int .i64 target, .int .i64 act, .int .u64 (ai : Int), .int .u64 (ah : Int), .int .u64 (ad : Int), .int .u64 (am : Int), .int .u64 (aw : Int), .bool aa, .bool ab, .int .u64 (bi : Int), .int .u64 (bh : Int), .int .u64 (bd : Int), .int .u64 (bm : Int), .int .u64 (bw : Int), .bool ba, .bool bb] 171)).alloc (by simp) (.cells #[.bool failed, .slice A xs.length cap] 264))
 have HT := J ((G.At.made w 171 #[.int .i64 kind, .int .i64 target, .int .i64 act, .int .u64 (ai : Int), .int .u64 (ah : Int), .int .u64 (ad : Int), .int .u64 (am : Int), .int .u64 (aw : Int), .bool aa, .bool ab, .int .u64 (bi : Int), .int .u64 (bh : Int), .int .u64 (bd : Int), .int .u64 (bm : Int), .int .u64 (bw : Int), .bool ba, .bool bb]).alloc (.cells #[.bool failed, .slice A xs.length cap] 264))
 have hr := G.At.made (w.alloc (.cells #[.int .i64 kind, .int .i64 target, .int .i64 act, .int .u64 (ai : Int), .int .u64 (ah : Int), .int .u64 (ad : Int), .int .u64 (am : Int), .int .u64 (aw : Int), .bool aa, .bool ab, .int .u64 (bi : Int), .int .u64 (bh : Int), .int .u64 (bd : Int), .int .u64 (bm : Int), .int .u64 (bw : Int), .bool ba, .bool bb] 171)) 264 #[.bool failed, .slice A xs.length cap]
 simp only [World.size_alloc] at hr
 have HR := J hr
 have HN := J (hx.below HB.u (Nat.le_refl _))
 have HO := J (fun (W : World) (hW : NumsIn W A xs) => needOf ai ah ad am aw bi bh bd bm bw aa ab ba bb ha hb kind target act 0 0 failed A cap xs W hW hl)
 have HM := J (fun (W : World) (hW : NumsIn W A xs) => needMetric ai ah ad am aw bi bh bd bm bw aa ab ba bb kind target act failed A cap xs W hW hl)
 have HErr := J (fun (hk : kind = 1 ∨ kind = 2) (ht : 1 ≤ target) => need_err (a := ⟨ai, ah, ad, am, aw, aa, ab⟩) (b := ⟨bi, bh, bd, bm, bw, ba, bb⟩) (act := act) (sec := 0) (shift := 0) (failed := failed) (n := (G.metN kind (G.spot xs) xs.length)) (many := ((G.metM kind (G.spot xs) xs.length : Nat) : Int)) hk ht)
 clear hx hr ha hb hl
 obtain ⟨R, hR⟩ : ∃ R, (needR ⟨ai, ah, ad, am, aw, aa, ab⟩ ⟨bi, bh, bd, bm, bw, ba, bb⟩ kind target act 0 0 failed (G.metN kind (G.spot xs) xs.length) ((G.metM kind (G.spot xs) xs.length : Nat) : Int)) = R := ⟨_, rfl⟩
 rw [hR] at HO HErr ⊢
 clear hR
 obtain ⟨r, hrr⟩ : ∃ r, (wantR now tol kind target failed (G.metN kind (G.spot xs) xs.length) R.1) = r := ⟨_, rfl⟩
 have HV := J hrr
 rw [hrr]
 clear hrr
 go_enter Tryz.func192, Tryz.ntmps192
 go_upto_region 1 with fail
 generalize (w.alloc (.cells #[.int .i64 kind, .int .i64 target, .int .i64 act, .int .u64 (ai : Int), .int .u64 (ah : Int), .int .u64 (ad : Int), .int .u64 (am : Int), .int .u64 (aw : Int), .bool aa, .bool ab, .int .u64 (bi : Int), .int .u64 (bh : Int), .int .u64 (bd : Int), .int .u64 (bm : Int), .int .u64 (bw : Int), .bool ba, .bool bb] 171)).alloc (.cells #[.bool failed, .slice A xs.length cap] 264) = W at HB HT HR HN ⊢
 have z0 := HT.u.here (i := 0) rfl; have z1 := HT.u.here (i := 1) rfl
 have r0 := HR.u.here (i := 0) rfl; have r1 := HR.u.here (i := 1) rfl
 by_cases k12 : kind ≠ 1 ∧ kind ≠ 2
 ·have HF := J (show r = (0, 1) by rw [← HV.u]; unfold wantR; rw [if_pos (.inl k12)])
  obtain ⟨k1, k2⟩ := k12
  go_wp2_with fail
  go_ret2
  exact ⟨by rw [HF.u] <;> rfl, HB.u⟩
 have HK := J (show kind = 1 ∨ kind = 2 by omega)
 have HQ : Hid (∀ (P : Prop), ((kind = 1 → P) ∧ (kind = 2 → P)) → P) := J (fun P h => HK.u.elim h.1 h.2)
 by_cases b1 : target < 1
 ·have HF := J (show r = (0, 1) by rw [← HV.u]; unfold wantR; rw [if_pos (.inr (.inl b1))])
  rcases HK.u with hk | hk
  all_goals
   have hk1 := J hk
   subst hk
   go_wp2_with fail
   go_ret2
   exact ⟨by rw [HF.u] <;> rfl, HB.u⟩
 have b1' : 1 ≤ target := by omega
 by_cases b2 : now < 0
 ·have HF := J (show r = (0, 1) by rw [← HV.u]; unfold wantR; rw [if_pos (.inr (.inr (.inl b2)))])
  clear b1
  rcases HK.u with hk | hk
  all_goals
   have hk1 := J hk
   subst hk
   go_wp2_with fail
   go_ret2
   exact ⟨by rw [HF.u] <;> rfl, HB.u⟩
 have b2' : 0 ≤ now := by omega
 by_cases b3 : 50 < now
 ·have HF := J (show r = (0, 1) by rw [← HV.u]; unfold wantR; rw [if_pos (.inr (.inr (.inr (.inl b3))))])
  clear b1 b2
  rcases HK.u with hk | hk
  all_goals
   have hk1 := J hk
   subst hk
   go_wp2_with fail
   go_ret2
   exact ⟨by rw [HF.u] <;> rfl, HB.u⟩
 have b3' : now ≤ 50 := by omega
 by_cases b4 : tol < 0
 ·have HF := J (show r = (0, 1) by rw [← HV.u]; unfold wantR; rw [if_pos (.inr (.inr (.inr (.inr (.inl b4)))))])
  clear b1 b2 b3
  rcases HK.u with hk | hk
  all_goals
   have hk1 := J hk
   subst hk
   go_wp2_with fail
   go_ret2
   exact ⟨by rw [HF.u] <;> rfl, HB.u⟩
 have b4' : 0 ≤ tol := by omega
 by_cases b5 : 1000 < tol
 ·have HF := J (show r = (0, 1) by rw [← HV.u]; unfold wantR; rw [if_pos (.inr (.inr (.inr (.inr (.inr b5)))))])
  clear b1 b2 b3 b4
  rcases HK.u with hk | hk
  all_goals
   have hk1 := J hk
   subst hk
   go_wp2_with fail
   go_ret2
   exact ⟨by rw [HF.u] <;> rfl, HB.u⟩
 have b5' : tol ≤ 1000 := by omega
 have HV2 := J (show r = (if failed then (0, 4) else (if 0 < now ∧ max (G.subc (G.metN kind (G.spot xs) xs.length) (G.mulc now target)) (G.subc (G.mulc now target) (G.metN kind (G.spot xs) xs.length)) ≤ G.sharec (G.mulc now target) tol then now else R.1, 0)) by rw [← HV.u]; unfold wantR; rw [if_neg (by have := HK.u; omega)])
 have HEr := J (HErr.u HK.u b1')
 clear k12 b1 b2 b3 b4 b5 HErr HV HQ
 have HTest : Hid (((kind != 1) && (kind != 2)) = false) := J (by rcases HK.u with h | h <;> subst h <;> rfl)
 go_cut [44] (fun s wx => s = .bool false ∧ W = wx)
 case first =>
  rcases HK.u with hk | hk
  all_goals
   have hk1 := J hk
   subst hk
   go_wp2_with fail
   go_meet
   refine ⟨?_, rfl⟩
   rw [decide_eq_false (show ¬ target < 1 by omega), decide_eq_false (show ¬ now < 0 by omega), decide_eq_false (show ¬ 50 < now by omega), decide_eq_false (show ¬ tol < 0 by omega), decide_eq_false (show ¬ 1000 < tol by omega)]
   rfl
 case rest =>
 obtain ⟨rfl, rfl⟩ := hcut
 go_wp2_with (refine wpList_load_row rfl 171 (.tmp 6) rfl w.heap.size rfl 171 _ (0, 0) _ HT.u Tryz.underlying171 rfl (by kernel_rfl) ?_)
 refine (HO.u _ HN.u).mono ?_
 rintro e w1 ⟨rfl, hb1⟩
 rw [HEr.u]
 have HB1 := J (HB.u.trans (hb1.mono HB.u.size))
 have HT1 := J (HT.u.below hb1 HT.u.inside)
 have HR1 := J (HR.u.below hb1 HR.u.inside)
 have HN1 := J (HN.u.below hb1 (Nat.le_refl _))
 clear hb1 z0 z1 r0 r1 HB HT HR HN HO
 cases failed
 case true =>
  have HF := J (show r = (0, 4) by rw [HV2.u]; rfl)
  have HBx := J (HB1.u.alloc HB1.u.size (.cells #[.int .i64 R.1, .bool R.2.1] 285))
  go_wp2_with fail
  go_ret2
  exact ⟨by rw [HF.u] <;> rfl, HBx.u⟩
 have HV3 := J (show r = (if 0 < now ∧ max (G.subc (G.metN kind (G.spot xs) xs.length) (G.mulc now target)) (G.subc (G.mulc now target) (G.metN kind (G.spot xs) xs.length)) ≤ G.sharec (G.mulc now target) tol then now else R.1, 0) by rw [HV2.u]; rfl)
 clear HV2
 go_upto_region 4 with fail
 have HB2 := J (HB1.u.alloc HB1.u.size (.cells #[.int .i64 R.1, .bool R.2.1] 285))
 have HT2 := J (HT1.u.alloc (.cells #[.int .i64 R.1, .bool R.2.1] 285))
 have HR2 := J (HR1.u.alloc (.cells #[.int .i64 R.1, .bool R.2.1] 285))
 have HG2 := J (G.At.made w1 285 #[.int .i64 R.1, .bool R.2.1])
 have HN2 := J (HN1.u.below ((Below.refl w1.heap.size w1).alloc (Nat.le_refl _) (.cells #[.int .i64 R.1, .bool R.2.1] 285)) (Nat.le_refl _))
 generalize w1.alloc (.cells #[.int .i64 R.1, .bool R.2.1] 285) = W2 at HB2 HT2 HR2 HG2 HN2 ⊢
 generalize w1.heap.size = g at HG2 ⊢
 clear HB1 HT1 HR1 HN1
 have r0 := HR2.u.here (i := 0) rfl; have r1 := HR2.u.here (i := 1) rfl
 go_wp2_with (refine wpList_load_row rfl 171 (.tmp 6) rfl w.heap.size rfl 171 _ (0, 0) _ HT2.u Tryz.underlying171 rfl (by kernel_rfl) ?_)
 refine (HM.u _ HN2.u).mono ?_
 rintro e w3 ⟨rfl, hb3⟩
 have HB3 := J (HB2.u.trans (hb3.mono HB2.u.size))
 have HT3 := J (HT2.u.below hb3 HT2.u.inside)
 have HG3 := J (HG2.u.below hb3 HG2.u.inside)
 clear hb3 r0 r1 HB2 HT2 HR2 HG2 HN2 HM
 generalize (G.metN kind (G.spot xs) xs.length) = N at HV3 ⊢
 generalize ((G.metM kind (G.spot xs) xs.length : Nat) : Int) = M
 have z1 := HT3.u.here (i := 1) rfl
 have y0 := HG3.u.here (i := 0) rfl
 go_wp2_with fail
 refine (numMul now target _).mono ?_
 rintro e w4 ⟨rfl, rfl⟩
 generalize G.mulc now target = Fu at HV3 ⊢
 go_upto_region 8 with fail
 obtain ⟨X, hX⟩ : ∃ X, G.subc N Fu = X := ⟨_, rfl⟩
 obtain ⟨Y, hY⟩ : ∃ Y, G.subc Fu N = Y := ⟨_, rfl⟩
 have HX := J hX; have HY := J hY
 rw [hX, hY] at HV3
 clear hX hY
 obtain ⟨D, hD⟩ : ∃ D, max X Y = D := ⟨_, rfl⟩
 rw [hD] at HV3
 have HD := J hD
 clear hD
 go_cut [15] (fun s wx => s = .int .i64 D ∧ w3 = wx)
 case first =>
  go_wp2_with fail
  refine (numSub N Fu _).mono ?_
  rintro e w4 ⟨rfl, rfl⟩
  go_wp2_with fail
  refine (numSub Fu N _).mono ?_
  rintro e w4 ⟨rfl, rfl⟩
  rw [HX.u, HY.u]
  by_cases hm : X < Y
  ·have e1 : D = Y := by have := HD.u; omega
   clear HD
   subst e1
   go_wp2_with fail
   go_meet
   exact ⟨rfl, rfl⟩
  have hm' : Y ≤ X := by omega
  have e1 : D = X := by have := HD.u; omega
  clear HD
  subst e1
  clear hm
  go_wp2_with fail
  go_meet
  exact ⟨rfl, rfl⟩
 case rest =>
 obtain ⟨rfl, rfl⟩ := hcut
 by_cases n0 : 0 < now
 ·have HSh := J (fun (W : World) => numShare Fu tol W)
  generalize G.sharec Fu tol = S at HV3 HSh
  go_wp2_with fail
  refine (HSh.u _).mono ?_
  rintro e w5 ⟨rfl, rfl⟩
  by_cases hs : D ≤ S
  ·have HF := J (show r = (now, 0) by rw [HV3.u, if_pos ⟨n0, hs⟩])
   go_wp2_with fail
   go_ret2
   exact ⟨by rw [HF.u] <;> rfl, HB3.u⟩
  have HF := J (show r = (R.1, 0) by rw [HV3.u, if_neg (fun h => hs h.2)])
  have hs' : S < D := by omega
  clear hs
  go_wp2_with fail
  go_ret2
  exact ⟨by rw [HF.u] <;> rfl, HB3.u⟩
 have HF := J (show r = (R.1, 0) by rw [HV3.u, if_neg (fun h => n0 h.1)])
 have n0' : now ≤ 0 := by omega
 clear n0
 go_wp2_with fail
 go_ret2
 exact ⟨by rw [HF.u] <;> rfl, HB3.u⟩
end Go.Proofs.YtoidcbpcnikejaaGreatDoor
