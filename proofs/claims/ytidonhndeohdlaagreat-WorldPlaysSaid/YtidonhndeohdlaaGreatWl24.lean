/- Parts of this claim: NeedR, OpenTrig, OpenPlan, QueL. -/
import Derived.SizedLaws
import Derived.Test.YtidonhndeohdlaaGreatWlNeedC
import Derived.Test.YtidonhndeohdlaaGreatWl23
import Derived.Test.YtidonhndeohdlaaGreatWl16
import Derived.Test.YtidonhndeohdlaaGreatWl09
set_option linter.unusedVariables false
set_option linter.unusedSimpArgs false
set_option maxRecDepth 100000
set_option maxHeartbeats 12800000
namespace Go.Proofs.YtidonhndeohdlaaGreat
open Go.RowKit
theorem add_ref {kind : Int} {f : Nat → Int} {k : Nat} {x : Int} : G.addc (G.metN kind f k) x = G.clip (G.metN kind f k + G.clip x) := by
 have := G.metN_bd kind f k
 unfold G.addc
 rw [G.clip_id (n := G.metN kind f k) (by omega) (by omega)]
theorem refMetric (ai ah ad am aw bi bh bd bm bw : Nat) (aa ab ba bb : Bool) (kind target act : Int) (failed : Bool) (A : Option Addr) (cap : Nat) (xs : List Int) (w : World) (hx : NumsIn w A xs) (hl : xs.length ≤ 9223372036854775807) : Calls Tryz.prog 142 #[.agg #[.int .i64 kind, .int .i64 target, .int .i64 act, .int .u64 (ai : Int), .int .u64 (ah : Int), .int .u64 (ad : Int), .int .u64 (am : Int), .int .u64 (aw : Int), .bool aa, .bool ab, .int .u64 (bi : Int), .int .u64 (bh : Int), .int .u64 (bd : Int), .int .u64 (bm : Int), .int .u64 (bw : Int), .bool ba, .bool bb], .agg #[.bool failed, .slice A xs.length cap]] w fun e w' => e = .returned (.tuple #[.int .i64 (G.metN kind (G.spot xs) xs.length), .int .i64 ((G.metM kind (G.spot xs) xs.length : Nat) : Int)]) ∧ Below w.heap.size w w' := by
 have HB := J (((Below.refl w.heap.size w).alloc (Nat.le_refl _) (.cells #[.int .i64 kind, .int .i64 target, .int .i64 act, .int .u64 (ai : Int), .int .u64 (ah : Int), .int .u64 (ad : Int), .int .u64 (am : Int), .int .u64 (aw : Int), .bool aa, .bool ab, .int .u64 (bi : Int), .int .u64 (bh : Int), .int .u64 (bd : Int), .int .u64 (bm : Int), .int .u64 (bw : Int), .bool ba, .bool bb] 63)).alloc (by simp) (.cells #[.bool failed, .slice A xs.length cap] 142))
 have HT := J ((G.At.made w 63 #[.int .i64 kind, .int .i64 target, .int .i64 act, .int .u64 (ai : Int), .int .u64 (ah : Int), .int .u64 (ad : Int), .int .u64 (am : Int), .int .u64 (aw : Int), .bool aa, .bool ab, .int .u64 (bi : Int), .int .u64 (bh : Int), .int .u64 (bd : Int), .int .u64 (bm : Int), .int .u64 (bw : Int), .bool ba, .bool bb]).alloc (.cells #[.bool failed, .slice A xs.length cap] 142))
 have hr := G.At.made (w.alloc (.cells #[.int .i64 kind, .int .i64 target, .int .i64 act, .int .u64 (ai : Int), .int .u64 (ah : Int), .int .u64 (ad : Int), .int .u64 (am : Int), .int .u64 (aw : Int), .bool aa, .bool ab, .int .u64 (bi : Int), .int .u64 (bh : Int), .int .u64 (bd : Int), .int .u64 (bm : Int), .int .u64 (bw : Int), .bool ba, .bool bb] 63)) 142 #[.bool failed, .slice A xs.length cap]
 simp only [World.size_alloc] at hr
 have HR := J hr
 have HN := J (hx.below HB.u (Nat.le_refl _))
 clear hx hr
 go_enter Tryz.func142, Tryz.ntmps142
 go_upto_region 1 with fail
 generalize (w.alloc (.cells #[.int .i64 kind, .int .i64 target, .int .i64 act, .int .u64 (ai : Int), .int .u64 (ah : Int), .int .u64 (ad : Int), .int .u64 (am : Int), .int .u64 (aw : Int), .bool aa, .bool ab, .int .u64 (bi : Int), .int .u64 (bh : Int), .int .u64 (bd : Int), .int .u64 (bm : Int), .int .u64 (bw : Int), .bool ba, .bool bb] 63)).alloc (.cells #[.bool failed, .slice A xs.length cap] 142) = W at HB HT HR HN ⊢
 have z0 := HT.u.here (i := 0) rfl
 have r1 := HR.u.here (i := 1) rfl
 go_wp2_with fail
 go_loop [4, 5, 6] (fun n m i => ∃ k : Nat, k ≤ xs.length ∧ i = .int .i64 k ∧ n = .int .i64 (G.metN kind (G.spot xs) k) ∧ m = .int .i64 ((G.metM kind (G.spot xs) k : Nat) : Int)) (fun _ _ i => xs.length - (intOf i).toNat)
 case atStart => exact ⟨0, by omega, rfl, rfl, rfl⟩
 obtain ⟨k, hk, rfl, rfl, rfl⟩ := hrel
 by_cases hlt : k < xs.length
 ·obtain ⟨x, hx⟩ := G.get_some xs hlt
  obtain ⟨b, off, e, hbl, hc⟩ := HN.u (by omega)
  cases e
  have c0 := hc k x hx
  have HS1 := J (show G.metN kind (G.spot xs) (k + 1) = if G.picks kind k x then G.clip (G.metN kind (G.spot xs) k + G.clip x) else G.metN kind (G.spot xs) k by rw [← add_ref, ← G.spot_get hx]; rfl)
  have HS2 := J (show G.metM kind (G.spot xs) (k + 1) = if G.picks kind k x then G.metM kind (G.spot xs) k + 1 else G.metM kind (G.spot xs) k by rw [← G.spot_get hx]; rfl)
  have hm := G.metM_le kind (G.spot xs) k
  have nb := G.metN_bd kind (G.spot xs) k
  have i0 : (0 : Int) ≤ (k : Int) := by omega
  have i1 : (k : Int) < (xs.length : Int) := by omega
  have i2 : (xs.length : Int) ≤ 9223372036854775807 := by omega
  generalize G.metN kind (G.spot xs) k = N at HS1 nb ⊢
  generalize G.metM kind (G.spot xs) k = M at HS2 hm ⊢
  obtain ⟨n0, n1⟩ := nb
  have m0 : (0 : Int) ≤ (M : Int) := by omega
  have m1 : (M : Int) ≤ (k : Int) := by omega
  have HCl := J (fun (W : World) => refClip x W)
  have c1 := G.clip_lo x; have c2 := G.clip_hi x
  generalize G.clip x = cx at HCl HS1 c1 c2
  clear hx hc hm
  by_cases p1 : 0 < x
  ·by_cases p2 : kind = 1
   ·have HP := J (show G.picks kind k x = true by unfold G.picks; simp [p1, p2])
    subst p2
    go_wp2_with fail
    refine (HCl.u _).mono ?_
    rintro e w2 ⟨rfl, rfl⟩
    go_wp2_with fail
    refine (refClip (N + cx) _).mono ?_
    rintro e w2 ⟨rfl, rfl⟩
    go_wp2_with fail
    go_round
    case rel => exact ⟨k + 1, by omega, by go_num, by rw [HS1.u, HP.u]; rfl, by rw [HS2.u, HP.u]; go_num⟩
    case measure => simp [intOf]; omega
   have q2 : (kind == 1) = false := by simpa using p2
   by_cases p3 : (k : Int) = 0
   ·have HP := J (show G.picks kind k x = true by unfold G.picks; simp [p1]; omega)
    have q3 : ((k : Int) == 0) = true := by simpa using p3
    clear p2 p3
    go_wp2_with fail
    refine (HCl.u _).mono ?_
    rintro e w2 ⟨rfl, rfl⟩
    go_wp2_with fail
    refine (refClip (N + cx) _).mono ?_
    rintro e w2 ⟨rfl, rfl⟩
    go_wp2_with fail
    go_round
    case rel => exact ⟨k + 1, by omega, by go_num, by rw [HS1.u, HP.u]; rfl, by rw [HS2.u, HP.u]; go_num⟩
    case measure => simp [intOf]; omega
   have HP := J (show G.picks kind k x = false by unfold G.picks; simp [p2]; omega)
   have q3 : ((k : Int) == 0) = false := by simpa using p3
   clear p2 p3
   go_wp2_with fail
   go_round
   case rel => exact ⟨k + 1, by omega, by go_num, by rw [HS1.u, HP.u]; rfl, by rw [HS2.u, HP.u]; rfl⟩
   case measure => simp [intOf]; omega
  have HP := J (show G.picks kind k x = false by unfold G.picks; simp [p1])
  go_wp2_with fail
  go_round
  case rel => exact ⟨k + 1, by omega, by go_num, by rw [HS1.u, HP.u]; rfl, by rw [HS2.u, HP.u]; rfl⟩
  case measure => simp [intOf]; omega
 have hie : k = xs.length := by omega
 subst hie
 go_wp2_with fail
 go_ret2
 exact ⟨rfl, HB.u⟩
theorem refNeed (ai ah ad am aw bi bh bd bm bw : Nat) (aa ab ba bb : Bool) (ha : Cr.fits ⟨ai, ah, ad, am, aw, aa, ab⟩) (hb : Cr.fits ⟨bi, bh, bd, bm, bw, ba, bb⟩) (kind target act : Int) (failed : Bool) (A : Option Addr) (cap : Nat) (xs : List Int) (sec shift : Int) (w : World) (hx : NumsIn w A xs) (hl : xs.length ≤ 9223372036854775807) : Calls Tryz.prog 119 #[.agg #[.int .i64 kind, .int .i64 target, .int .i64 act, .int .u64 (ai : Int), .int .u64 (ah : Int), .int .u64 (ad : Int), .int .u64 (am : Int), .int .u64 (aw : Int), .bool aa, .bool ab, .int .u64 (bi : Int), .int .u64 (bh : Int), .int .u64 (bd : Int), .int .u64 (bm : Int), .int .u64 (bw : Int), .bool ba, .bool bb], .agg #[.bool failed, .slice A xs.length cap], .int .i64 sec, .int .i64 shift] w fun e w' => e = .returned (.tuple #[.agg #[.int .i64 (needR ⟨ai, ah, ad, am, aw, aa, ab⟩ ⟨bi, bh, bd, bm, bw, ba, bb⟩ kind target act sec shift failed (G.metN kind (G.spot xs) xs.length) ((G.metM kind (G.spot xs) xs.length : Nat) : Int)).1, .bool (needR ⟨ai, ah, ad, am, aw, aa, ab⟩ ⟨bi, bh, bd, bm, bw, ba, bb⟩ kind target act sec shift failed (G.metN kind (G.spot xs) xs.length) ((G.metM kind (G.spot xs) xs.length : Nat) : Int)).2.1], .int .i64 (needR ⟨ai, ah, ad, am, aw, aa, ab⟩ ⟨bi, bh, bd, bm, bw, ba, bb⟩ kind target act sec shift failed (G.metN kind (G.spot xs) xs.length) ((G.metM kind (G.spot xs) xs.length : Nat) : Int)).2.2]) ∧ Below w.heap.size w w' := by
 have HB := J ((((Below.refl w.heap.size w).alloc (Nat.le_refl _) (.cells #[.int .i64 kind, .int .i64 target, .int .i64 act, .int .u64 (ai : Int), .int .u64 (ah : Int), .int .u64 (ad : Int), .int .u64 (am : Int), .int .u64 (aw : Int), .bool aa, .bool ab, .int .u64 (bi : Int), .int .u64 (bh : Int), .int .u64 (bd : Int), .int .u64 (bm : Int), .int .u64 (bw : Int), .bool ba, .bool bb] 63)).alloc (by simp) (.cells #[.bool failed, .slice A xs.length cap] 142)).alloc (by simp; omega) (.cells #[.int .i64 0, .bool false] 176))
 have HT := J (((G.At.made w 63 #[.int .i64 kind, .int .i64 target, .int .i64 act, .int .u64 (ai : Int), .int .u64 (ah : Int), .int .u64 (ad : Int), .int .u64 (am : Int), .int .u64 (aw : Int), .bool aa, .bool ab, .int .u64 (bi : Int), .int .u64 (bh : Int), .int .u64 (bd : Int), .int .u64 (bm : Int), .int .u64 (bw : Int), .bool ba, .bool bb]).alloc (.cells #[.bool failed, .slice A xs.length cap] 142)).alloc (.cells #[.int .i64 0, .bool false] 176))
 have hr := (G.At.made (w.alloc (.cells #[.int .i64 kind, .int .i64 target, .int .i64 act, .int .u64 (ai : Int), .int .u64 (ah : Int), .int .u64 (ad : Int), .int .u64 (am : Int), .int .u64 (aw : Int), .bool aa, .bool ab, .int .u64 (bi : Int), .int .u64 (bh : Int), .int .u64 (bd : Int), .int .u64 (bm : Int), .int .u64 (bw : Int), .bool ba, .bool bb] 63)) 142 #[.bool failed, .slice A xs.length cap]).alloc (.cells #[.int .i64 0, .bool false] 176)
 have hg := G.At.made ((w.alloc (.cells #[.int .i64 kind, .int .i64 target, .int .i64 act, .int .u64 (ai : Int), .int .u64 (ah : Int), .int .u64 (ad : Int), .int .u64 (am : Int), .int .u64 (aw : Int), .bool aa, .bool ab, .int .u64 (bi : Int), .int .u64 (bh : Int), .int .u64 (bd : Int), .int .u64 (bm : Int), .int .u64 (bw : Int), .bool ba, .bool bb] 63)).alloc (.cells #[.bool failed, .slice A xs.length cap] 142)) 176 #[.int .i64 0, .bool false]
 simp only [World.size_alloc] at hr hg
 have HR := J hr
 have HG := J hg
 have HN := J (hx.below HB.u (Nat.le_refl _))
 have HSp := J (fun (W : World) => refSpan ai ah ad am aw bi bh bd bm bw aa ab ba bb ha hb W)
 have HWi := J (fun (W : World) (h1 : spanE ⟨ai, ah, ad, am, aw, aa, ab⟩ ⟨bi, bh, bd, bm, bw, ba, bb⟩ = 0) (h2 : okTime sec shift) => refWithin ai ah ad am aw bi bh bd bm bw aa ab ba bb ha hb sec shift W h1 h2)
 have HM := J (fun (W : World) (hW : NumsIn W A xs) => refMetric ai ah ad am aw bi bh bd bm bw aa ab ba bb kind target act failed A cap xs W hW hl)
 have HL := J (show (G.metM kind (G.spot xs) xs.length) ≤ xs.length from G.metM_le _ _ _)
 clear hx hr hg ha hb
 obtain ⟨r, hrr⟩ : ∃ r, (needR ⟨ai, ah, ad, am, aw, aa, ab⟩ ⟨bi, bh, bd, bm, bw, ba, bb⟩ kind target act sec shift failed (G.metN kind (G.spot xs) xs.length) ((G.metM kind (G.spot xs) xs.length : Nat) : Int)) = r := ⟨_, rfl⟩
 have HVV := J hrr
 rw [hrr]
 clear hrr
 go_enter Tryz.func119, Tryz.ntmps119
 go_upto_region 1 with fail
 generalize ((w.alloc (.cells #[.int .i64 kind, .int .i64 target, .int .i64 act, .int .u64 (ai : Int), .int .u64 (ah : Int), .int .u64 (ad : Int), .int .u64 (am : Int), .int .u64 (aw : Int), .bool aa, .bool ab, .int .u64 (bi : Int), .int .u64 (bh : Int), .int .u64 (bd : Int), .int .u64 (bm : Int), .int .u64 (bw : Int), .bool ba, .bool bb] 63)).alloc (.cells #[.bool failed, .slice A xs.length cap] 142)).alloc (.cells #[.int .i64 0, .bool false] 176) = W at HB HT HR HG HN ⊢
 have z0 := HT.u.here (i := 0) rfl; have z1 := HT.u.here (i := 1) rfl; have z2 := HT.u.here (i := 2) rfl; have z3 := HT.u.here (i := 3) rfl; have z4 := HT.u.here (i := 4) rfl; have z5 := HT.u.here (i := 5) rfl; have z6 := HT.u.here (i := 6) rfl; have z7 := HT.u.here (i := 7) rfl; have z8 := HT.u.here (i := 8) rfl; have z9 := HT.u.here (i := 9) rfl; have z10 := HT.u.here (i := 10) rfl; have z11 := HT.u.here (i := 11) rfl; have z12 := HT.u.here (i := 12) rfl; have z13 := HT.u.here (i := 13) rfl; have z14 := HT.u.here (i := 14) rfl; have z15 := HT.u.here (i := 15) rfl; have z16 := HT.u.here (i := 16) rfl
 have r0 := HR.u.here (i := 0) rfl; have r1 := HR.u.here (i := 1) rfl
 have g0 := HG.u.here (i := 0) rfl; have g1 := HG.u.here (i := 1) rfl; have f0 := HG.u.soft 0; have f1 := HG.u.soft 1
 by_cases b1 : 1 ≤ kind ∧ kind ≤ 3
 case neg =>
  have HF := J (show r = (0, false, 1) by rw [← HVV.u]; unfold needR; rw [if_pos (by omega)])
  have HQ := J (show kind < 1 ∨ 3 < kind by omega)
  clear b1
  go_wp2_with fail
  refine (refIn_no kind 1 3 _ HQ.u).mono ?_
  rintro e w' ⟨rfl, rfl⟩
  go_wp2_with fail
  have q := (HG.u.put 0 (.int .i64 0)).put 1 (.bool false)
  have d0 := q.here (i := 0) rfl; have d1 := q.here (i := 1) rfl
  refine bodyPost_ret (v := .tuple #[.agg #[.int .i64 0, .bool false], .int .i64 1]) (by simp [results, Tryz.results119, go_sem, d0, d1]) rfl ⟨by rw [HF.u] <;> rfl, ?_⟩
  exact (HB.u.setCell (p := ⟨w.heap.size + 2, 0, none⟩) (by show w.heap.size ≤ w.heap.size + 2; omega) _).setCell (p := ⟨w.heap.size + 2, 1, none⟩) (by show w.heap.size ≤ w.heap.size + 2; omega) _
 obtain ⟨b1, b2⟩ := b1
 go_wp2_with fail
 refine (refIn_yes kind 1 3 _ b1 b2).mono ?_
 rintro e w' ⟨rfl, rfl⟩
 by_cases b3 : target < 1
 ·have HF := J (show r = (0, false, 1) by rw [← HVV.u]; unfold needR; rw [if_pos (.inr (.inr b3))])
  go_wp2_with fail
  have q := (HG.u.put 0 (.int .i64 0)).put 1 (.bool false)
  have d0 := q.here (i := 0) rfl; have d1 := q.here (i := 1) rfl
  refine bodyPost_ret (v := .tuple #[.agg #[.int .i64 0, .bool false], .int .i64 1]) (by simp [results, Tryz.results119, go_sem, d0, d1]) rfl ⟨by rw [HF.u] <;> rfl, ?_⟩
  exact (HB.u.setCell (p := ⟨w.heap.size + 2, 0, none⟩) (by show w.heap.size ≤ w.heap.size + 2; omega) _).setCell (p := ⟨w.heap.size + 2, 1, none⟩) (by show w.heap.size ≤ w.heap.size + 2; omega) _
 have b3' : 1 ≤ target := by omega
 have HVV2 := J (show r = (if kind = 3 then (if spanInE ⟨ai, ah, ad, am, aw, aa, ab⟩ ⟨bi, bh, bd, bm, bw, ba, bb⟩ sec shift = 0 ∧ spanInB ⟨ai, ah, ad, am, aw, aa, ab⟩ ⟨bi, bh, bd, bm, bw, ba, bb⟩ sec shift = true then (target, true, 0) else (0, false, spanInE ⟨ai, ah, ad, am, aw, aa, ab⟩ ⟨bi, bh, bd, bm, bw, ba, bb⟩ sec shift))
  else if failed then (0, false, 4)
  else (if kind = 1 then min (G.ceilc (G.metN kind (G.spot xs) xs.length) target) ((G.metM kind (G.spot xs) xs.length : Nat) : Int) else G.ceilc (G.metN kind (G.spot xs) xs.length) target, decide (act < (G.metN kind (G.spot xs) xs.length)), 0)) by rw [← HVV.u]; unfold needR; rw [if_neg (by omega)])
 clear b3 HVV
 by_cases k3 : kind = 3
 ·have HK3 := J (show r = if spanInE ⟨ai, ah, ad, am, aw, aa, ab⟩ ⟨bi, bh, bd, bm, bw, ba, bb⟩ sec shift = 0 ∧ spanInB ⟨ai, ah, ad, am, aw, aa, ab⟩ ⟨bi, bh, bd, bm, bw, ba, bb⟩ sec shift = true then (target, true, 0) else (0, false, spanInE ⟨ai, ah, ad, am, aw, aa, ab⟩ ⟨bi, bh, bd, bm, bw, ba, bb⟩ sec shift) by rw [HVV2.u, if_pos k3])
  clear HVV2
  subst k3
  clear b1 b2
  go_wp2_with fail
  refine (HSp.u _).mono ?_
  rintro e w1 ⟨rfl, hb1⟩
  have HB1 := J (HB.u.trans (hb1.mono HB.u.size))
  have HT1 := J (HT.u.below hb1 HT.u.inside)
  have HG1 := J (HG.u.below hb1 HG.u.inside)
  clear hb1 z0 z1 z2 z3 z4 z5 z6 z7 z8 z9 z10 z11 z12 z13 z14 z15 z16 r0 r1 f0 f1 g0 g1 HB HT HG HR
  have z0 := HT1.u.here (i := 0) rfl; have z1 := HT1.u.here (i := 1) rfl; have z2 := HT1.u.here (i := 2) rfl; have z3 := HT1.u.here (i := 3) rfl; have z4 := HT1.u.here (i := 4) rfl; have z5 := HT1.u.here (i := 5) rfl; have z6 := HT1.u.here (i := 6) rfl; have z7 := HT1.u.here (i := 7) rfl; have z8 := HT1.u.here (i := 8) rfl; have z9 := HT1.u.here (i := 9) rfl; have z10 := HT1.u.here (i := 10) rfl; have z11 := HT1.u.here (i := 11) rfl; have z12 := HT1.u.here (i := 12) rfl; have z13 := HT1.u.here (i := 13) rfl; have z14 := HT1.u.here (i := 14) rfl; have z15 := HT1.u.here (i := 15) rfl; have z16 := HT1.u.here (i := 16) rfl
  have g0 := HG1.u.here (i := 0) rfl; have g1 := HG1.u.here (i := 1) rfl; have f0 := HG1.u.soft 0; have f1 := HG1.u.soft 1
  by_cases hE : spanE ⟨ai, ah, ad, am, aw, aa, ab⟩ ⟨bi, bh, bd, bm, bw, ba, bb⟩ = 0
  case neg =>
   have hse1 : spanE ⟨ai, ah, ad, am, aw, aa, ab⟩ ⟨bi, bh, bd, bm, bw, ba, bb⟩ = 1 := by
    have h4 : spanE ⟨ai, ah, ad, am, aw, aa, ab⟩ ⟨bi, bh, bd, bm, bw, ba, bb⟩ = 0 ∨ spanE ⟨ai, ah, ad, am, aw, aa, ab⟩ ⟨bi, bh, bd, bm, bw, ba, bb⟩ = 1 := by unfold spanE Cr.err; cases Cr.ok ⟨ai, ah, ad, am, aw, aa, ab⟩ <;> cases Cr.ok ⟨bi, bh, bd, bm, bw, ba, bb⟩ <;> simp
    rcases h4 with h4 | h4
    ·exact absurd h4 hE
    exact h4
   have hse : spanInE ⟨ai, ah, ad, am, aw, aa, ab⟩ ⟨bi, bh, bd, bm, bw, ba, bb⟩ sec shift = 1 := by unfold spanInE; rw [if_neg hE]
   have HF := J (show r = (0, false, 1) by rw [HK3.u, hse]; rfl)
   rw [hse1]
   clear hE hse1 hse
   go_wp2_with fail
   have q := (HG1.u.put 0 (.int .i64 0)).put 1 (.bool false)
   have d0 := q.here (i := 0) rfl; have d1 := q.here (i := 1) rfl
   refine bodyPost_ret (v := .tuple #[.agg #[.int .i64 0, .bool false], .int .i64 1]) (by simp [results, Tryz.results119, go_sem, d0, d1]) rfl ⟨by rw [HF.u] <;> rfl, ?_⟩
   exact (HB1.u.setCell (p := ⟨w.heap.size + 2, 0, none⟩) (by show w.heap.size ≤ w.heap.size + 2; omega) _).setCell (p := ⟨w.heap.size + 2, 1, none⟩) (by show w.heap.size ≤ w.heap.size + 2; omega) _
  rw [hE]
  by_cases hot : okTime sec shift
  case neg =>
   have hse : spanInE ⟨ai, ah, ad, am, aw, aa, ab⟩ ⟨bi, bh, bd, bm, bw, ba, bb⟩ sec shift = 1 := by unfold spanInE; rw [if_pos hE, if_neg hot]
   have HF := J (show r = (0, false, 1) by rw [HK3.u, hse]; rfl)
   have HO := J (fun (W : World) => refOf_no sec shift W hot)
   clear hE hse hot
   go_wp2_with fail
   refine (HO.u _).mono ?_
   rintro e w2 ⟨rfl, hb2⟩
   unfold civZero
   have HB2 := J ((HB1.u.trans (hb2.mono HB1.u.size)).alloc (by have := HB1.u.size; have := hb2.size; omega) (.cells #[.int .i64 0, .int .i64 0, .int .i64 0, .int .i64 0, .int .i64 0, .int .i64 0, .int .i64 0] 192))
   have HG2 := J ((HG1.u.below hb2 HG1.u.inside).alloc (.cells #[.int .i64 0, .int .i64 0, .int .i64 0, .int .i64 0, .int .i64 0, .int .i64 0, .int .i64 0] 192))
   clear hb2 g0 g1 f0 f1
   have g0 := HG2.u.here (i := 0) rfl; have g1 := HG2.u.here (i := 1) rfl; have f0 := HG2.u.soft 0; have f1 := HG2.u.soft 1
   go_upto_region 9 with fail
   generalize w2.alloc (.cells #[.int .i64 0, .int .i64 0, .int .i64 0, .int .i64 0, .int .i64 0, .int .i64 0, .int .i64 0] 192) = W2 at HB2 HG2 g0 g1 f0 f1 ⊢
   go_wp2_with fail
   have q := (HG2.u.put 0 (.int .i64 0)).put 1 (.bool false)
   have d0 := q.here (i := 0) rfl; have d1 := q.here (i := 1) rfl
   refine bodyPost_ret (v := .tuple #[.agg #[.int .i64 0, .bool false], .int .i64 1]) (by simp [results, Tryz.results119, go_sem, d0, d1]) rfl ⟨by rw [HF.u] <;> rfl, ?_⟩
   exact (HB2.u.setCell (p := ⟨w.heap.size + 2, 0, none⟩) (by show w.heap.size ≤ w.heap.size + 2; omega) _).setCell (p := ⟨w.heap.size + 2, 1, none⟩) (by show w.heap.size ≤ w.heap.size + 2; omega) _
  have HO := J (fun (W : World) => refOf_yes sec shift W hot)
  have HW2 := J (fun (W : World) => HWi.u W hE hot)
  have HK4 := J (show r = if spanInB ⟨ai, ah, ad, am, aw, aa, ab⟩ ⟨bi, bh, bd, bm, bw, ba, bb⟩ sec shift = true then (target, true, 0) else (0, false, 0) by
   rw [HK3.u, spanInE_is hE hot]
   cases spanInB ⟨ai, ah, ad, am, aw, aa, ab⟩ ⟨bi, bh, bd, bm, bw, ba, bb⟩ sec shift <;> rfl)
  generalize spanInB ⟨ai, ah, ad, am, aw, aa, ab⟩ ⟨bi, bh, bd, bm, bw, ba, bb⟩ sec shift = ib at HW2 HK4
  clear hE hot HK3 HWi
  go_wp2_with fail
  refine (HO.u _).mono ?_
  rintro e w2 ⟨rfl, hb2⟩
  have HBa := J (HB1.u.trans (hb2.mono HB1.u.size))
  have HTa := J (HT1.u.below hb2 HT1.u.inside)
  have HGa := J (HG1.u.below hb2 HG1.u.inside)
  clear hb2 z0 z1 z2 z3 z4 z5 z6 z7 z8 z9 z10 z11 z12 z13 z14 z15 z16 g0 g1 f0 f1 HB1 HT1 HG1
  unfold civAgg
  generalize (sec + 60 * shift) % 86400 / 3600 = gh
  generalize (sec + 60 * shift) % 86400 / 60 % 60 = gm
  generalize (sec + 60 * shift) % 86400 % 60 = gs
  generalize (sec + 60 * shift) / 86400 = D
  go_upto_region 8 with fail
  have HB2 := J (HBa.u.alloc HBa.u.size (.cells #[.int .i64 (G.yrOf D), .int .i64 (G.moOf D), .int .i64 (G.dyOf D), .int .i64 gh, .int .i64 gm, .int .i64 gs, .int .i64 ((D + 4) % 7)] 192))
  have HT2 := J (HTa.u.alloc (.cells #[.int .i64 (G.yrOf D), .int .i64 (G.moOf D), .int .i64 (G.dyOf D), .int .i64 gh, .int .i64 gm, .int .i64 gs, .int .i64 ((D + 4) % 7)] 192))
  have HG2 := J (HGa.u.alloc (.cells #[.int .i64 (G.yrOf D), .int .i64 (G.moOf D), .int .i64 (G.dyOf D), .int .i64 gh, .int .i64 gm, .int .i64 gs, .int .i64 ((D + 4) % 7)] 192))
  generalize w2.alloc (.cells #[.int .i64 (G.yrOf D), .int .i64 (G.moOf D), .int .i64 (G.dyOf D), .int .i64 gh, .int .i64 gm, .int .i64 gs, .int .i64 ((D + 4) % 7)] 192) = W2 at HB2 HT2 HG2 ⊢
  clear HBa HTa HGa
  have z0 := HT2.u.here (i := 0) rfl; have z1 := HT2.u.here (i := 1) rfl; have z2 := HT2.u.here (i := 2) rfl; have z3 := HT2.u.here (i := 3) rfl; have z4 := HT2.u.here (i := 4) rfl; have z5 := HT2.u.here (i := 5) rfl; have z6 := HT2.u.here (i := 6) rfl; have z7 := HT2.u.here (i := 7) rfl; have z8 := HT2.u.here (i := 8) rfl; have z9 := HT2.u.here (i := 9) rfl; have z10 := HT2.u.here (i := 10) rfl; have z11 := HT2.u.here (i := 11) rfl; have z12 := HT2.u.here (i := 12) rfl; have z13 := HT2.u.here (i := 13) rfl; have z14 := HT2.u.here (i := 14) rfl; have z15 := HT2.u.here (i := 15) rfl; have z16 := HT2.u.here (i := 16) rfl
  go_wp2_with fail
  refine (HW2.u _).mono ?_
  rintro e w3 ⟨rfl, hb3⟩
  have HB3 := J (HB2.u.trans (hb3.mono HB2.u.size))
  have HT3 := J (HT2.u.below hb3 HT2.u.inside)
  have HG3 := J (HG2.u.below hb3 HG2.u.inside)
  clear hb3 z0 z1 z2 z3 z4 z5 z6 z7 z8 z9 z10 z11 z12 z13 z14 z15 z16 HB2 HT2 HG2
  have z1 := HT3.u.here (i := 1) rfl
  have g0 := HG3.u.here (i := 0) rfl; have g1 := HG3.u.here (i := 1) rfl; have f0 := HG3.u.soft 0; have f1 := HG3.u.soft 1
  cases ib
  ·have HF := J (show r = (0, false, 0) by rw [HK4.u]; rfl)
   go_wp2_with fail
   have q := (HG3.u.put 0 (.int .i64 0)).put 1 (.bool false)
   have d0 := q.here (i := 0) rfl; have d1 := q.here (i := 1) rfl
   refine bodyPost_ret (v := .tuple #[.agg #[.int .i64 0, .bool false], .int .i64 0]) (by simp [results, Tryz.results119, go_sem, d0, d1]) rfl ⟨by rw [HF.u] <;> rfl, ?_⟩
   exact (HB3.u.setCell (p := ⟨w.heap.size + 2, 0, none⟩) (by show w.heap.size ≤ w.heap.size + 2; omega) _).setCell (p := ⟨w.heap.size + 2, 1, none⟩) (by show w.heap.size ≤ w.heap.size + 2; omega) _
  have HF := J (show r = (target, true, 0) by rw [HK4.u]; rfl)
  go_wp2_with fail
  have q := (HG3.u.put 0 (.int .i64 target)).put 1 (.bool true)
  have d0 := q.here (i := 0) rfl; have d1 := q.here (i := 1) rfl
  refine bodyPost_ret (v := .tuple #[.agg #[.int .i64 target, .bool true], .int .i64 0]) (by simp [results, Tryz.results119, go_sem, d0, d1]) rfl ⟨by rw [HF.u] <;> rfl, ?_⟩
  exact (HB3.u.setCell (p := ⟨w.heap.size + 2, 0, none⟩) (by show w.heap.size ≤ w.heap.size + 2; omega) _).setCell (p := ⟨w.heap.size + 2, 1, none⟩) (by show w.heap.size ≤ w.heap.size + 2; omega) _
 cases failed
 case true =>
  have HF := J (show r = (0, false, 4) by rw [HVV2.u, if_neg k3, if_pos rfl])
  go_wp2_with fail
  have q := (HG.u.put 0 (.int .i64 0)).put 1 (.bool false)
  have d0 := q.here (i := 0) rfl; have d1 := q.here (i := 1) rfl
  refine bodyPost_ret (v := .tuple #[.agg #[.int .i64 0, .bool false], .int .i64 4]) (by simp [results, Tryz.results119, go_sem, d0, d1]) rfl ⟨by rw [HF.u] <;> rfl, ?_⟩
  exact (HB.u.setCell (p := ⟨w.heap.size + 2, 0, none⟩) (by show w.heap.size ≤ w.heap.size + 2; omega) _).setCell (p := ⟨w.heap.size + 2, 1, none⟩) (by show w.heap.size ≤ w.heap.size + 2; omega) _
 have HVV3 := J (show r = (if kind = 1 then min (G.ceilc (G.metN kind (G.spot xs) xs.length) target) ((G.metM kind (G.spot xs) xs.length : Nat) : Int) else G.ceilc (G.metN kind (G.spot xs) xs.length) target, decide (act < (G.metN kind (G.spot xs) xs.length)), 0) by rw [HVV2.u, if_neg k3]; rfl)
 clear HVV2
 go_wp2_with fail
 refine (HM.u _ HN.u).mono ?_
 rintro e w1 ⟨rfl, hb1⟩
 have HB1 := J (HB.u.trans (hb1.mono HB.u.size))
 have HT1 := J (HT.u.below hb1 HT.u.inside)
 have HG1 := J (HG.u.below hb1 HG.u.inside)
 clear hb1 z0 z1 z2 z3 z4 z5 z6 z7 z8 z9 z10 z11 z12 z13 z14 z15 z16 r0 r1 f0 f1 g0 g1 HB HT HG HR HM HSp HWi
 have hm := HL.u
 generalize G.metN kind (G.spot xs) xs.length = N at HVV3 ⊢
 generalize G.metM kind (G.spot xs) xs.length = M at HVV3 hm ⊢
 have m0 : (0 : Int) ≤ (M : Int) := by omega
 have m1 : (M : Int) ≤ 9223372036854775807 := by omega
 clear hm
 have z0 := HT1.u.here (i := 0) rfl; have z1 := HT1.u.here (i := 1) rfl; have z2 := HT1.u.here (i := 2) rfl; have z3 := HT1.u.here (i := 3) rfl; have z4 := HT1.u.here (i := 4) rfl; have z5 := HT1.u.here (i := 5) rfl; have z6 := HT1.u.here (i := 6) rfl; have z7 := HT1.u.here (i := 7) rfl; have z8 := HT1.u.here (i := 8) rfl; have z9 := HT1.u.here (i := 9) rfl; have z10 := HT1.u.here (i := 10) rfl; have z11 := HT1.u.here (i := 11) rfl; have z12 := HT1.u.here (i := 12) rfl; have z13 := HT1.u.here (i := 13) rfl; have z14 := HT1.u.here (i := 14) rfl; have z15 := HT1.u.here (i := 15) rfl; have z16 := HT1.u.here (i := 16) rfl
 have g0 := HG1.u.here (i := 0) rfl; have g1 := HG1.u.here (i := 1) rfl; have f0 := HG1.u.soft 0; have f1 := HG1.u.soft 1
 go_wp2_with fail
 refine (refCeil N target _ b3').mono ?_
 rintro e w2 ⟨rfl, rfl⟩
 generalize G.ceilc N target = C at HVV3 ⊢
 by_cases k1 : kind = 1
 ·have HK1 := J (show r = (min C (M : Int), decide (act < N), 0) by rw [HVV3.u, if_pos k1])
  clear HVV3
  subst k1
  by_cases hm : C ≤ (M : Int)
  ·have HF := J (show r = (C, decide (act < N), 0) by rw [HK1.u, Int.min_eq_left hm])
   go_wp2_with fail
   have q := (HG1.u.put 0 (.int .i64 C)).put 1 (.bool (decide (act < N)))
   have d0 := q.here (i := 0) rfl; have d1 := q.here (i := 1) rfl
   refine bodyPost_ret (v := .tuple #[.agg #[.int .i64 C, .bool (decide (act < N))], .int .i64 0]) (by simp [results, Tryz.results119, go_sem, d0, d1]) rfl ⟨by rw [HF.u] <;> rfl, ?_⟩
   exact (HB1.u.setCell (p := ⟨w.heap.size + 2, 0, none⟩) (by show w.heap.size ≤ w.heap.size + 2; omega) _).setCell (p := ⟨w.heap.size + 2, 1, none⟩) (by show w.heap.size ≤ w.heap.size + 2; omega) _
  have hm' : (M : Int) < C := by omega
  have hmn : min C (M : Int) = (M : Int) := by omega
  have HMn := J hmn
  clear hm hmn
  have HF := J (show r = ((M : Int), decide (act < N), 0) by rw [HK1.u, HMn.u])
  go_wp2_with fail
  have q := (HG1.u.put 0 (.int .i64 (M : Int))).put 1 (.bool (decide (act < N)))
  have d0 := q.here (i := 0) rfl; have d1 := q.here (i := 1) rfl
  refine bodyPost_ret (v := .tuple #[.agg #[.int .i64 (M : Int), .bool (decide (act < N))], .int .i64 0]) (by simp [results, Tryz.results119, go_sem, d0, d1]) rfl ⟨by rw [HF.u] <;> rfl, ?_⟩
  exact (HB1.u.setCell (p := ⟨w.heap.size + 2, 0, none⟩) (by show w.heap.size ≤ w.heap.size + 2; omega) _).setCell (p := ⟨w.heap.size + 2, 1, none⟩) (by show w.heap.size ≤ w.heap.size + 2; omega) _
 have HF := J (show r = (C, decide (act < N), 0) by rw [HVV3.u, if_neg k1])
 have k1' : (kind == 1) = false := by simpa using k1
 go_wp2_with fail
 have q := (HG1.u.put 0 (.int .i64 C)).put 1 (.bool (decide (act < N)))
 have d0 := q.here (i := 0) rfl; have d1 := q.here (i := 1) rfl
 refine bodyPost_ret (v := .tuple #[.agg #[.int .i64 C, .bool (decide (act < N))], .int .i64 0]) (by simp [results, Tryz.results119, go_sem, d0, d1]) rfl ⟨by rw [HF.u] <;> rfl, ?_⟩
 exact (HB1.u.setCell (p := ⟨w.heap.size + 2, 0, none⟩) (by show w.heap.size ≤ w.heap.size + 2; omega) _).setCell (p := ⟨w.heap.size + 2, 1, none⟩) (by show w.heap.size ≤ w.heap.size + 2; omega) _
open Go.ChangeShapes Go.WideShapes Go.ChangeAt Go.RowKit
theorem cells_trig : Tryz.prog.cellsOf 63 = 17 := by kernel_rfl
section
variable {H : Type} {enc : TypeId × Value → H} {w : World} {base : Nat} {spare : Nat → Bool} {held : Bool}
theorem span_list {fuel : Nat} {x : DataW H × List MemPlace} {c0 c1 c2 c3 c4 c5 c6 c7 c8 c9 c10 c11 c12 c13 : Value} (hf : DataW.trod enc Tryz.prog w base spare held fuel 61 [c0, c1, c2, c3, c4, c5, c6, c7, c8, c9, c10, c11, c12, c13] = some x) :
  ∃ (ai ah ad am aw bi bh bd bm bw : Nat) (aa ab ba bb : Bool), Cr.fits ⟨ai, ah, ad, am, aw, aa, ab⟩ ∧ Cr.fits ⟨bi, bh, bd, bm, bw, ba, bb⟩ ∧ [c0, c1, c2, c3, c4, c5, c6, c7, c8, c9, c10, c11, c12, c13] = [.int .u64 (ai : Int), .int .u64 (ah : Int), .int .u64 (ad : Int), .int .u64 (am : Int), .int .u64 (aw : Int), .bool aa, .bool ab, .int .u64 (bi : Int), .int .u64 (bh : Int), .int .u64 (bd : Int), .int .u64 (bm : Int), .int .u64 (bw : Int), .bool ba, .bool bb] := by
 obtain ⟨xs, n, _, hx, _, hlen, hg⟩ := DataW.trod_struct Tryz.underlying61 hf
 have s0 : xs[0]? = some (xs[0]'(by rw [hlen]; decide)) := List.getElem?_eq_getElem _
 have s1 : xs[1]? = some (xs[1]'(by rw [hlen]; decide)) := List.getElem?_eq_getElem _
 have t0 : DataW.trod enc Tryz.prog w base spare held n 59 [c0, c1, c2, c3, c4, c5, c6] = xs[0]? := by simpa [cells_cron] using hg 0 _ rfl
 have t1 : DataW.trod enc Tryz.prog w base spare held n 59 [c7, c8, c9, c10, c11, c12, c13] = xs[1]? := by simpa [cells_cron] using hg 1 _ rfl
 obtain ⟨ai, ah, ad, am, aw, aa, ab, rfl, rfl, rfl, rfl, rfl, rfl, rfl, f1⟩ := cron_list (t0.trans s0)
 obtain ⟨bi, bh, bd, bm, bw, ba, bb, rfl, rfl, rfl, rfl, rfl, rfl, rfl, f2⟩ := cron_list (t1.trans s1)
 exact ⟨ai, ah, ad, am, aw, bi, bh, bd, bm, bw, aa, ab, ba, bb, f1, f2, rfl⟩
theorem trig_list {fuel : Nat} {x : DataW H × List MemPlace} {l : List Value} (hl : l.length = 17) (hf : DataW.trod enc Tryz.prog w base spare held fuel 63 l = some x) :
  ∃ (kind target act : Int) (ai ah ad am aw bi bh bd bm bw : Nat) (aa ab ba bb : Bool), Cr.fits ⟨ai, ah, ad, am, aw, aa, ab⟩ ∧ Cr.fits ⟨bi, bh, bd, bm, bw, ba, bb⟩ ∧ (Lit.int .i64 kind).wf = true ∧ (Lit.int .i64 target).wf = true ∧ (Lit.int .i64 act).wf = true ∧
   l = [.int .i64 kind, .int .i64 target, .int .i64 act, .int .u64 (ai : Int), .int .u64 (ah : Int), .int .u64 (ad : Int), .int .u64 (am : Int), .int .u64 (aw : Int), .bool aa, .bool ab, .int .u64 (bi : Int), .int .u64 (bh : Int), .int .u64 (bd : Int), .int .u64 (bm : Int), .int .u64 (bw : Int), .bool ba, .bool bb] := by
 match l, hl with
 | [k0, k1, k2, c0, c1, c2, c3, c4, c5, c6, c7, c8, c9, c10, c11, c12, c13], _ =>
  obtain ⟨xs, n, _, hx, _, hlen, hg⟩ := DataW.trod_struct Tryz.underlying63 hf
  have one : ∀ (i : Nat) (c : Value), i < 4 → (DataW.trod enc Tryz.prog w base spare held n 3 [c] = xs[i]?) → ∃ k : Int, c = .int .i64 k ∧ (Lit.int .i64 k).wf = true := by
   intro i c hi ht
   have hs : xs[i]? = some (xs[i]'(by rw [hlen]; exact hi)) := List.getElem?_eq_getElem _
   obtain ⟨k, hc, _, wf⟩ := DataW.trod_int Tryz.underlying3 (ht.trans hs)
   exact ⟨k, by simpa using hc, wf⟩
  obtain ⟨a0, rfl, w0⟩ := one 0 k0 (by omega) (by simpa [rows_cells_int] using hg 0 _ rfl)
  obtain ⟨a1, rfl, w1⟩ := one 1 k1 (by omega) (by simpa [rows_cells_int] using hg 1 _ rfl)
  obtain ⟨a2, rfl, w2⟩ := one 2 k2 (by omega) (by simpa [rows_cells_int] using hg 2 _ rfl)
  have s3 : xs[3]? = some (xs[3]'(by rw [hlen]; decide)) := List.getElem?_eq_getElem _
  have t3 : DataW.trod enc Tryz.prog w base spare held n 61 [c0, c1, c2, c3, c4, c5, c6, c7, c8, c9, c10, c11, c12, c13] = xs[3]? := by simpa [cells_span, rows_cells_int] using hg 3 _ rfl
  obtain ⟨ai, ah, ad, am, aw, bi, bh, bd, bm, bw, aa, ab, ba, bb, f1, f2, e⟩ := span_list (t3.trans s3)
  exact ⟨a0, a1, a2, ai, ah, ad, am, aw, bi, bh, bd, bm, bw, aa, ab, ba, bb, f1, f2, w0, w1, w2, by rw [e]⟩
end
open Go.ChangeShapes Go.WideShapes Go.ChangeAt Go.RowKit
theorem cells_plan : Tryz.prog.cellsOf 26 = 18 := by kernel_rfl
theorem cells_pace4 : Tryz.prog.cellsOf 23 = 4 := by kernel_rfl
theorem cells_string1 : Tryz.prog.cellsOf 9 = 1 := by kernel_rfl
theorem cells_trigs : Tryz.prog.cellsOf 24 = 1 := by kernel_rfl
section
variable {H : Type} {enc : TypeId × Value → H} {w : World} {base : Nat} {spare : Nat → Bool} {held : Bool}
theorem pace_list {fuel : Nat} {x : DataW H × List MemPlace} {c0 c1 c2 c3 : Value} (hf : DataW.trod enc Tryz.prog w base spare held fuel 23 [c0, c1, c2, c3] = some x) :
  ∃ a b c d : Int, [c0, c1, c2, c3] = [.int .i64 a, .int .i64 b, .int .i64 c, .int .i64 d] := by
 obtain ⟨xs, n, _, hx, _, hlen, hg⟩ := DataW.trod_struct Tryz.underlying23 hf
 have one : ∀ (i : Nat) (c : Value), i < 4 → (DataW.trod enc Tryz.prog w base spare held n 3 [c] = xs[i]?) → ∃ k : Int, c = .int .i64 k := by
  intro i c hi ht
  have hs : xs[i]? = some (xs[i]'(by rw [hlen]; exact hi)) := List.getElem?_eq_getElem _
  obtain ⟨k, hc, _, _⟩ := DataW.trod_int Tryz.underlying3 (ht.trans hs)
  exact ⟨k, by simpa using hc⟩
 obtain ⟨k0, rfl⟩ := one 0 c0 (by omega) (by simpa [rows_cells_int, Value.cells] using hg 0 _ rfl)
 obtain ⟨k1, rfl⟩ := one 1 c1 (by omega) (by simpa [rows_cells_int, Value.cells] using hg 1 _ rfl)
 obtain ⟨k2, rfl⟩ := one 2 c2 (by omega) (by simpa [rows_cells_int, Value.cells] using hg 2 _ rfl)
 obtain ⟨k3, rfl⟩ := one 3 c3 (by omega) (by simpa [rows_cells_int, Value.cells] using hg 3 _ rfl)
 exact ⟨k0, k1, k2, k3, rfl⟩
theorem trigs_list {fuel : Nat} {c : Value} {x : DataW H × List MemPlace} (hf : DataW.trod enc Tryz.prog w base spare held fuel 24 [c] = some x) :
  ∃ (l : List Trg) (A : Option Addr) (cap : Nat), c = .slice A l.length cap ∧ l.length ≤ cap ∧ cap ≤ maxLen ∧ (∀ t ∈ l, t.fits) ∧ G.ListIn w 17 Trg.enc c l := by
 have h1 : ∃ a len cap, c = .slice a len cap := by
  rcases Go.Deep.open_slice Tryz.underlying24 hf with ⟨hcs, _⟩ | ⟨a, len, cap, _, _, _, _, hcs, _⟩
  ·exact ⟨none, 0, 0, by simpa using hcs⟩
  exact ⟨some a, len, cap, by simpa using hcs⟩
 refine open_list Tryz.underlying24 cells_trig (by decide) Trg.enc_length (fun n cs y hl hy => ?_) h1 (d := x.1) (p := x.2) ⟨fuel, by obtain ⟨a, len, cap, rfl⟩ := h1; simpa [Value.cells] using hf⟩
 obtain ⟨kind, target, act, ai, ah, ad, am, aw, bi, bh, bd, bm, bw, aa, ab, ba, bb, f1, f2, _, _, _, e⟩ := trig_list hl hy
 exact ⟨⟨kind, target, act, ⟨ai, ah, ad, am, aw, aa, ab⟩, ⟨bi, bh, bd, bm, bw, ba, bb⟩⟩, e, f1, f2⟩
theorem plan_list {fuel : Nat} {x : DataW H × List MemPlace} {l : List Value} (hl : l.length = 18) (hf : DataW.trod enc Tryz.prog w base spare held fuel 26 l = some x) :
  ∃ (p : Pln) (A : Option Addr) (cap : Nat), l = (plnC p (.slice A p.trigs.length cap)).toList ∧ p.trigs.length ≤ cap ∧ cap ≤ maxLen ∧ (∀ t ∈ p.trigs, t.fits) ∧ p.name.size ≤ maxLen ∧ G.ListIn w 17 Trg.enc (.slice A p.trigs.length cap) p.trigs := by
 match l, hl with
 | [s0, k1, k2, k3, k4, k5, k6, k7, k8, u0, u1, u2, u3, d0, d1, d2, d3, tv], _ =>
  obtain ⟨xs, n, _, hx, _, hlen, hg⟩ := DataW.trod_struct Tryz.underlying26 hf
  have one : ∀ (i : Nat) (c : Value), i < 12 → (DataW.trod enc Tryz.prog w base spare held n 3 [c] = xs[i]?) → ∃ k : Int, c = .int .i64 k := by
   intro i c hi ht
   have hs : xs[i]? = some (xs[i]'(by rw [hlen]; exact hi)) := List.getElem?_eq_getElem _
   obtain ⟨k, hc, _, wf⟩ := DataW.trod_int Tryz.underlying3 (ht.trans hs)
   exact ⟨k, by simpa using hc⟩
  have x0 : xs[0]? = some (xs[0]'(by rw [hlen]; decide)) := List.getElem?_eq_getElem _
  have t0 : DataW.trod enc Tryz.prog w base spare held n 9 [s0] = xs[0]? := by simpa [cells_string1] using hg 0 _ rfl
  obtain ⟨name, hs0, _, hnm⟩ := DataW.trod_string Tryz.underlying9 (t0.trans x0)
  obtain rfl : s0 = .string name := by simpa using hs0
  obtain ⟨a1, rfl⟩ := one 1 k1 (by omega) (by simpa [cells_string1, rows_cells_int] using hg 1 _ rfl)
  obtain ⟨a2, rfl⟩ := one 2 k2 (by omega) (by simpa [cells_string1, rows_cells_int] using hg 2 _ rfl)
  obtain ⟨a3, rfl⟩ := one 3 k3 (by omega) (by simpa [cells_string1, rows_cells_int] using hg 3 _ rfl)
  obtain ⟨a4, rfl⟩ := one 4 k4 (by omega) (by simpa [cells_string1, rows_cells_int] using hg 4 _ rfl)
  obtain ⟨a5, rfl⟩ := one 5 k5 (by omega) (by simpa [cells_string1, rows_cells_int] using hg 5 _ rfl)
  obtain ⟨a6, rfl⟩ := one 6 k6 (by omega) (by simpa [cells_string1, rows_cells_int] using hg 6 _ rfl)
  obtain ⟨a7, rfl⟩ := one 7 k7 (by omega) (by simpa [cells_string1, rows_cells_int] using hg 7 _ rfl)
  obtain ⟨a8, rfl⟩ := one 8 k8 (by omega) (by simpa [cells_string1, rows_cells_int] using hg 8 _ rfl)
  have x9 : xs[9]? = some (xs[9]'(by rw [hlen]; decide)) := List.getElem?_eq_getElem _
  have x10 : xs[10]? = some (xs[10]'(by rw [hlen]; decide)) := List.getElem?_eq_getElem _
  have x11 : xs[11]? = some (xs[11]'(by rw [hlen]; decide)) := List.getElem?_eq_getElem _
  have t9 : DataW.trod enc Tryz.prog w base spare held n 23 [u0, u1, u2, u3] = xs[9]? := by simpa [cells_string1, rows_cells_int, cells_pace4] using hg 9 _ rfl
  have t10 : DataW.trod enc Tryz.prog w base spare held n 23 [d0, d1, d2, d3] = xs[10]? := by simpa [cells_string1, rows_cells_int, cells_pace4] using hg 10 _ rfl
  have t11 : DataW.trod enc Tryz.prog w base spare held n 24 [tv] = xs[11]? := by simpa [cells_string1, rows_cells_int, cells_pace4, cells_trigs] using hg 11 _ rfl
  obtain ⟨b0, b1, b2, b3, e9⟩ := pace_list (t9.trans x9)
  obtain ⟨c0, c1, c2, c3, e10⟩ := pace_list (t10.trans x10)
  obtain ⟨ts, A, cap, rfl, h1, h2, h3, h4⟩ := trigs_list (t11.trans x11)
  cases e9
  cases e10
  exact ⟨⟨name, a1, a2, a3, a4, a5, a6, a7, a8, ⟨b0, b1, b2, b3⟩, ⟨c0, c1, c2, c3⟩, ts⟩, A, cap, rfl, h1, h2, h3, hnm, h4⟩
theorem open_plan {r : Reach} {b0 : Nat} {v : Value} {d : DataW H} {q : List MemPlace} (hv : Value.okWide Tryz.prog w r b0 26 v) (h : DataW.Trod enc Tryz.prog w base spare held 26 v d q) :
  ∃ (p : Pln) (A : Option Addr) (cap : Nat), v = plnV p (.slice A p.trigs.length cap) ∧ p.trigs.length ≤ cap ∧ cap ≤ maxLen ∧ (∀ t ∈ p.trigs, t.fits) ∧ p.name.size ≤ maxLen ∧ G.ListIn w 17 Trg.enc (.slice A p.trigs.length cap) p.trigs := by
 obtain ⟨cs, rfl, hsz⟩ := okWide_struct Tryz.underlying26 hv
 obtain ⟨l⟩ := cs
 obtain ⟨fuel, hf⟩ := h
 obtain ⟨p, A, cap, e, h1⟩ := plan_list (by simpa using hsz.trans cells_plan) (by simpa [Value.cells] using hf)
 exact ⟨p, A, cap, by rw [e]; rfl, h1⟩
end
open Go.RowKit
structure Both2 (w0 w : World) (S1 S2 : Nat → Prop) (g1 g2 : Nat) (v1 v2 : Value) (l : List G.Msg) (last : Int) (j : Nat) : Prop where
 q : QAt 122 S1 w g1 v1 l last
 b : QAt 74 S2 w g2 v2 l last
 two : G.Two w0 w S1 S2
 up : G.Up l
 ids : ∀ m ∈ l, m.id ≤ last
 last0 : 0 ≤ last
 last1 : last ≤ 200 * j
theorem put_up {l : List G.Msg} {last n : Int} (h : G.Up l) (hi : ∀ m ∈ l, m.id ≤ last) (h0 : 0 ≤ last) : G.Up (G.putLst l last n) ∧ (∀ m ∈ G.putLst l last n, m.id ≤ G.putLast l last n) ∧ 0 ≤ G.putLast l last n ∧ G.putLast l last n ≤ last + 200 := by
 unfold G.putLst G.putLast
 split
 ·exact ⟨h, hi, h0, by omega⟩
 split
 ·exact ⟨h, hi, h0, by omega⟩
 refine ⟨?_, ?_, by omega, by omega⟩
 ·unfold G.Up
  rw [List.pairwise_append]
  refine ⟨h, ?_, ?_⟩
  ·unfold G.newMsgs
   rw [List.pairwise_map]
   exact List.pairwise_lt_range.imp (fun {a b} hab => by simp only; omega)
  intro a ha b hb
  have h1 := hi a ha
  unfold G.newMsgs at hb
  obtain ⟨i, _, rfl⟩ := List.mem_map.1 hb
  simp only; omega
 intro m hm
 rcases List.mem_append.1 hm with hm | hm
 ·have := hi m hm; omega
 unfold G.newMsgs at hm
 obtain ⟨i, hr, rfl⟩ := List.mem_map.1 hm
 rw [List.mem_range] at hr
 simp only; omega
theorem up_of_ids {l l' : List G.Msg} (h : G.Up l) (e : l'.map (·.id) = l.map (·.id)) : G.Up l' := by
 unfold G.Up at *
 have h1 : (l.map (·.id)).Pairwise (· < ·) := by rw [List.pairwise_map]; exact h
 rw [← e, List.pairwise_map] at h1
 exact h1
theorem ids_of {l l' : List G.Msg} {last : Int} (h : ∀ m ∈ l, m.id ≤ last) (e : ∀ m ∈ l', ∃ m0 ∈ l, m.id = m0.id) : ∀ m ∈ l', m.id ≤ last := fun m hm => by
 obtain ⟨m0, h0, e0⟩ := e m hm
 rw [e0]; exact h m0 h0
theorem backAll_ids (l : List G.Msg) (now : Int) : (G.backAll now l).map (·.id) = l.map (·.id) := by
 unfold G.backAll; rw [List.map_map]; exact List.map_congr_left fun m _ => G.back_id now m
theorem nowLst_ids (l : List G.Msg) (now : Int) : (G.nowLst l now).map (·.id) = l.map (·.id) := by
 unfold G.nowLst; split
 ·exact backAll_ids l now
 rfl
theorem leaseLst_ids (l : List G.Msg) (now ticks : Int) : (G.leaseLst l now ticks).map (·.id) = l.map (·.id) := by
 unfold G.leaseLst; split
 ·split
  ·exact backAll_ids l now
  rw [← backAll_ids l now]
  apply List.ext_getElem?
  intro j
  rw [List.getElem?_map, List.getElem?_map, List.getElem?_modify]
  cases (G.backAll now l)[j]? with
  | none => rfl
  | some m => simp; split <;> rfl
 rfl
theorem mem_ids {l l' : List G.Msg} (e : l'.map (·.id) = l.map (·.id)) : ∀ m ∈ l', ∃ m0 ∈ l, m.id = m0.id := fun m hm => by
 have : m.id ∈ l'.map (·.id) := List.mem_map_of_mem hm
 rw [e] at this
 obtain ⟨m0, h0, e0⟩ := List.mem_map.1 this
 exact ⟨m0, h0, e0.symm⟩
theorem ack_sub (l : List G.Msg) (now id : Int) : (G.ackLst l now id).Sublist (G.backAll now l) ∨ G.ackLst l now id = l := by
 unfold G.ackLst; split
 ·left
  split
  ·exact List.Sublist.refl _
  split
  ·split
   ·exact List.eraseIdx_sublist _ _
   exact List.Sublist.refl _
  exact List.Sublist.refl _
 exact .inr rfl
theorem ack_up {l : List G.Msg} (h : G.Up l) (now id : Int) : G.Up (G.ackLst l now id) := by
 rcases ack_sub l now id with hs | hs
 ·exact (h.backAll now).sublist hs
 rw [hs]; exact h
theorem ack_mem (l : List G.Msg) (now id : Int) : ∀ m ∈ G.ackLst l now id, ∃ m0 ∈ l, m.id = m0.id := by
 rcases ack_sub l now id with hs | hs
 ·exact fun m hm => mem_ids (backAll_ids l now) m (hs.subset hm)
 rw [hs]; exact fun m hm => ⟨m, hm, rfl⟩
end Go.Proofs.YtidonhndeohdlaaGreat
