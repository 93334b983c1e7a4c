/- The contracts of package need: metric, Of, Want. -/
import Derived.Test.YtoidcbpcnikejaaGreatDoorDq10
set_option linter.unusedVariables false
set_option linter.unusedSimpArgs false
set_option maxRecDepth 100000
set_option maxHeartbeats 12800000
namespace Go.Proofs.YtoidcbpcnikejaaGreatDoor
open Go.RowKit
def NumsIn (w : World) (A : Option Addr) (xs : List Int) : Prop := 0 < xs.length → ∃ b off, A = some ⟨b, off, none⟩ ∧ b < w.heap.size ∧ ∀ i x, xs[i]? = some x → w.cell? ⟨b, off + i, none⟩ = some (.int .i64 x)
theorem NumsIn.below {w w' : World} {B : Nat} {A : Option Addr} {xs : List Int} (h : NumsIn w A xs) (hb : Below B w w') (hB : w.heap.size ≤ B) : NumsIn w' A xs := fun h0 => by
 obtain ⟨b, off, e, hlt, hc⟩ := h h0
 exact ⟨b, off, e, Nat.lt_of_lt_of_le hlt hb.size, fun i x hx => (hb.cell (p := ⟨b, off + i, none⟩) (by show b < B; omega)).trans (hc i x hx)⟩
theorem needMetric (ai ah ad am aw bi bh bd bm bw : Nat) (aa ab ba bb : Bool) (kind target act : Int) (failed : Bool) (A : Option Addr) (cap : Nat) (xs : List Int) (w : World) (hx : NumsIn w A xs) (hl : xs.length ≤ 9223372036854775807) : Calls Tryz.prog 198 #[.agg #[.int .i64 kind, .int .i64 target, .int .i64 act, .int .u64 (ai : Int), .int .u64 (ah : Int), .int .u64 (ad : Int), .int .u64 (am : Int), .int .u64 (aw : Int), .bool aa, .bool ab, .int .u64 (bi : Int), .int .u64 (bh : Int), .int .u64 (bd : Int), .int .u64 (bm : Int), .int .u64 (bw : Int), .bool ba, .bool bb], .agg #[.bool failed, .slice A xs.length cap]] w fun e w' => e = .returned (.tuple #[.int .i64 (G.metN kind (G.spot xs) xs.length), .int .i64 ((G.metM kind (G.spot xs) xs.length : Nat) : Int)]) ∧ Below w.heap.size w w' := by
 have HB := J (((Below.refl w.heap.size w).alloc (Nat.le_refl _) (.cells #[.int .i64 kind, .int .i64 target, .int .i64 act, .int .u64 (ai : Int), .int .u64 (ah : Int), .int .u64 (ad : Int), .int .u64 (am : Int), .int .u64 (aw : Int), .bool aa, .bool ab, .int .u64 (bi : Int), .int .u64 (bh : Int), .int .u64 (bd : Int), .int .u64 (bm : Int), .int .u64 (bw : Int), .bool ba, .bool bb] 171)).alloc (by simp) (.cells #[.bool failed, .slice A xs.length cap] 264))
 have HT := J ((G.At.made w 171 #[.int .i64 kind, .int .i64 target, .int .i64 act, .int .u64 (ai : Int), .int .u64 (ah : Int), .int .u64 (ad : Int), .int .u64 (am : Int), .int .u64 (aw : Int), .bool aa, .bool ab, .int .u64 (bi : Int), .int .u64 (bh : Int), .int .u64 (bd : Int), .int .u64 (bm : Int), .int .u64 (bw : Int), .bool ba, .bool bb]).alloc (.cells #[.bool failed, .slice A xs.length cap] 264))
 have hr := G.At.made (w.alloc (.cells #[.int .i64 kind, .int .i64 target, .int .i64 act, .int .u64 (ai : Int), .int .u64 (ah : Int), .int .u64 (ad : Int), .int .u64 (am : Int), .int .u64 (aw : Int), .bool aa, .bool ab, .int .u64 (bi : Int), .int .u64 (bh : Int), .int .u64 (bd : Int), .int .u64 (bm : Int), .int .u64 (bw : Int), .bool ba, .bool bb] 171)) 264 #[.bool failed, .slice A xs.length cap]
 simp only [World.size_alloc] at hr
 have HR := J hr
 have HN := J (hx.below HB.u (Nat.le_refl _))
 clear hx hr
 go_enter Tryz.func198, Tryz.ntmps198
 go_upto_region 1 with fail
 generalize (w.alloc (.cells #[.int .i64 kind, .int .i64 target, .int .i64 act, .int .u64 (ai : Int), .int .u64 (ah : Int), .int .u64 (ad : Int), .int .u64 (am : Int), .int .u64 (aw : Int), .bool aa, .bool ab, .int .u64 (bi : Int), .int .u64 (bh : Int), .int .u64 (bd : Int), .int .u64 (bm : Int), .int .u64 (bw : Int), .bool ba, .bool bb] 171)).alloc (.cells #[.bool failed, .slice A xs.length cap] 264) = W at HB HT HR HN ⊢
 have z0 := HT.u.here (i := 0) rfl
 have r1 := HR.u.here (i := 1) rfl
 go_wp2_with fail
 go_loop [6, 7, 13] (fun n m i => ∃ k : Nat, k ≤ xs.length ∧ i = .int .i64 k ∧ n = .int .i64 (G.metN kind (G.spot xs) k) ∧ m = .int .i64 ((G.metM kind (G.spot xs) k : Nat) : Int)) (fun _ _ i => xs.length - (intOf i).toNat)
 case atStart => exact ⟨0, by omega, rfl, rfl, rfl⟩
 obtain ⟨k, hk, rfl, rfl, rfl⟩ := hrel
 by_cases hlt : k < xs.length
 ·obtain ⟨x, hx⟩ := G.get_some xs hlt
  obtain ⟨b, off, e, hbl, hc⟩ := HN.u (by omega)
  cases e
  have c0 := hc k x hx
  have HS1 := J (show G.metN kind (G.spot xs) (k + 1) = if G.picks kind k x then G.addc (G.metN kind (G.spot xs) k) x else G.metN kind (G.spot xs) k by rw [← G.spot_get hx]; rfl)
  have HS2 := J (show G.metM kind (G.spot xs) (k + 1) = if G.picks kind k x then G.metM kind (G.spot xs) k + 1 else G.metM kind (G.spot xs) k by rw [← G.spot_get hx]; rfl)
  have hm := G.metM_le kind (G.spot xs) k
  have i0 : (0 : Int) ≤ (k : Int) := by omega
  have i1 : (k : Int) < (xs.length : Int) := by omega
  have i2 : (xs.length : Int) ≤ 9223372036854775807 := by omega
  generalize G.metN kind (G.spot xs) k = N at HS1 ⊢
  generalize G.metM kind (G.spot xs) k = M at HS2 hm ⊢
  have m0 : (0 : Int) ≤ (M : Int) := by omega
  have m1 : (M : Int) ≤ (k : Int) := by omega
  clear hx hc hm
  by_cases p1 : 0 < x
  ·by_cases p2 : kind = 1
   ·have HP := J (show G.picks kind k x = true by unfold G.picks; simp [p1, p2])
    subst p2
    go_wp2_with fail
    refine (numAdd N x _).mono ?_
    rintro e w2 ⟨rfl, rfl⟩
    go_wp2_with fail
    go_round
    case rel => exact ⟨k + 1, by omega, by go_num, by rw [HS1.u, HP.u]; rfl, by rw [HS2.u, HP.u]; go_num⟩
    case measure => simp [intOf]; omega
   have q2 : (kind == 1) = false := by simpa using p2
   by_cases p3 : (k : Int) = 0
   ·have HP := J (show G.picks kind k x = true by unfold G.picks; simp [p1]; omega)
    have q3 : ((k : Int) == 0) = true := by simpa using p3
    clear p2 p3
    go_wp2_with fail
    refine (numAdd N x _).mono ?_
    rintro e w2 ⟨rfl, rfl⟩
    go_wp2_with fail
    go_round
    case rel => exact ⟨k + 1, by omega, by go_num, by rw [HS1.u, HP.u]; rfl, by rw [HS2.u, HP.u]; go_num⟩
    case measure => simp [intOf]; omega
   have HP := J (show G.picks kind k x = false by unfold G.picks; simp [p2]; omega)
   have q3 : ((k : Int) == 0) = false := by simpa using p3
   clear p2 p3
   go_wp2_with fail
   go_round
   case rel => exact ⟨k + 1, by omega, by go_num, by rw [HS1.u, HP.u]; rfl, by rw [HS2.u, HP.u]; rfl⟩
   case measure => simp [intOf]; omega
  have HP := J (show G.picks kind k x = false by unfold G.picks; simp [p1])
  go_wp2_with fail
  go_round
  case rel => exact ⟨k + 1, by omega, by go_num, by rw [HS1.u, HP.u]; rfl, by rw [HS2.u, HP.u]; rfl⟩
  case measure => simp [intOf]; omega
 have hie : k = xs.length := by omega
 subst hie
 go_wp2_with fail
 go_ret2
 exact ⟨rfl, HB.u⟩
def needR (a b : Cr) (kind target act sec shift : Int) (failed : Bool) (n many : Int) : Int × Bool × Int :=
 if kind < 1 ∨ 3 < kind ∨ target < 1 then (0, false, 1)
 else if kind = 3 then (if spanInE a b sec shift = 0 ∧ spanInB a b sec shift = true then (target, true, 0) else (0, false, spanInE a b sec shift))
 else if failed then (0, false, 4)
 else (if kind = 1 then min (G.ceilc n target) many else G.ceilc n target, decide (act < n), 0)
theorem spanIn_two (a b : Cr) (sec shift : Int) : (spanInE a b sec shift = 0) ∨ (spanInE a b sec shift = 1 ∧ spanInB a b sec shift = false) := by
 unfold spanInE spanInB
 by_cases h : spanE a b = 0
 ·by_cases h2 : okTime sec shift
  ·left; simp [h, h2]
  right; simp [h, h2]
 right
 have h3 : spanE a b = 1 := by
  have h4 : spanE a b = 0 ∨ spanE a b = 1 := by unfold spanE Cr.err; cases a.ok <;> cases b.ok <;> simp
  rcases h4 with h4 | h4
  ·exact absurd h4 h
  exact h4
 simp [h3]
theorem needOf (ai ah ad am aw bi bh bd bm bw : Nat) (aa ab ba bb : Bool) (ha : Cr.fits ⟨ai, ah, ad, am, aw, aa, ab⟩) (hb : Cr.fits ⟨bi, bh, bd, bm, bw, ba, bb⟩) (kind target act sec shift : Int) (failed : Bool) (A : Option Addr) (cap : Nat) (xs : List Int) (w : World) (hx : NumsIn w A xs) (hl : xs.length ≤ 9223372036854775807) : Calls Tryz.prog 191 #[.agg #[.int .i64 kind, .int .i64 target, .int .i64 act, .int .u64 (ai : Int), .int .u64 (ah : Int), .int .u64 (ad : Int), .int .u64 (am : Int), .int .u64 (aw : Int), .bool aa, .bool ab, .int .u64 (bi : Int), .int .u64 (bh : Int), .int .u64 (bd : Int), .int .u64 (bm : Int), .int .u64 (bw : Int), .bool ba, .bool bb], .agg #[.bool failed, .slice A xs.length cap], .int .i64 sec, .int .i64 shift] w fun e w' => e = .returned (.tuple #[.agg #[.int .i64 (needR ⟨ai, ah, ad, am, aw, aa, ab⟩ ⟨bi, bh, bd, bm, bw, ba, bb⟩ kind target act sec shift failed (G.metN kind (G.spot xs) xs.length) ((G.metM kind (G.spot xs) xs.length : Nat) : Int)).1, .bool (needR ⟨ai, ah, ad, am, aw, aa, ab⟩ ⟨bi, bh, bd, bm, bw, ba, bb⟩ kind target act sec shift failed (G.metN kind (G.spot xs) xs.length) ((G.metM kind (G.spot xs) xs.length : Nat) : Int)).2.1], .int .i64 (needR ⟨ai, ah, ad, am, aw, aa, ab⟩ ⟨bi, bh, bd, bm, bw, ba, bb⟩ kind target act sec shift failed (G.metN kind (G.spot xs) xs.length) ((G.metM kind (G.spot xs) xs.length : Nat) : Int)).2.2]) ∧ Below w.heap.size w w' := by
 have HB := J ((((Below.refl w.heap.size w).alloc (Nat.le_refl _) (.cells #[.int .i64 kind, .int .i64 target, .int .i64 act, .int .u64 (ai : Int), .int .u64 (ah : Int), .int .u64 (ad : Int), .int .u64 (am : Int), .int .u64 (aw : Int), .bool aa, .bool ab, .int .u64 (bi : Int), .int .u64 (bh : Int), .int .u64 (bd : Int), .int .u64 (bm : Int), .int .u64 (bw : Int), .bool ba, .bool bb] 171)).alloc (by simp) (.cells #[.bool failed, .slice A xs.length cap] 264)).alloc (by simp; omega) (.cells #[.int .i64 0, .bool false] 285))
 have HT := J (((G.At.made w 171 #[.int .i64 kind, .int .i64 target, .int .i64 act, .int .u64 (ai : Int), .int .u64 (ah : Int), .int .u64 (ad : Int), .int .u64 (am : Int), .int .u64 (aw : Int), .bool aa, .bool ab, .int .u64 (bi : Int), .int .u64 (bh : Int), .int .u64 (bd : Int), .int .u64 (bm : Int), .int .u64 (bw : Int), .bool ba, .bool bb]).alloc (.cells #[.bool failed, .slice A xs.length cap] 264)).alloc (.cells #[.int .i64 0, .bool false] 285))
 have hr := (G.At.made (w.alloc (.cells #[.int .i64 kind, .int .i64 target, .int .i64 act, .int .u64 (ai : Int), .int .u64 (ah : Int), .int .u64 (ad : Int), .int .u64 (am : Int), .int .u64 (aw : Int), .bool aa, .bool ab, .int .u64 (bi : Int), .int .u64 (bh : Int), .int .u64 (bd : Int), .int .u64 (bm : Int), .int .u64 (bw : Int), .bool ba, .bool bb] 171)) 264 #[.bool failed, .slice A xs.length cap]).alloc (.cells #[.int .i64 0, .bool false] 285)
 have hg := G.At.made ((w.alloc (.cells #[.int .i64 kind, .int .i64 target, .int .i64 act, .int .u64 (ai : Int), .int .u64 (ah : Int), .int .u64 (ad : Int), .int .u64 (am : Int), .int .u64 (aw : Int), .bool aa, .bool ab, .int .u64 (bi : Int), .int .u64 (bh : Int), .int .u64 (bd : Int), .int .u64 (bm : Int), .int .u64 (bw : Int), .bool ba, .bool bb] 171)).alloc (.cells #[.bool failed, .slice A xs.length cap] 264)) 285 #[.int .i64 0, .bool false]
 simp only [World.size_alloc] at hr hg
 have HR := J hr
 have HG := J hg
 have HN := J (hx.below HB.u (Nat.le_refl _))
 have HI := J (fun (W : World) => spanIn ai ah ad am aw bi bh bd bm bw aa ab ba bb ha hb sec shift W)
 have HM := J (fun (W : World) (hW : NumsIn W A xs) => needMetric ai ah ad am aw bi bh bd bm bw aa ab ba bb kind target act failed A cap xs W hW hl)
 have HL := J (show (G.metM kind (G.spot xs) xs.length) ≤ xs.length from G.metM_le _ _ _)
 clear hx hr hg ha hb
 have HV : Hid (needR ⟨ai, ah, ad, am, aw, aa, ab⟩ ⟨bi, bh, bd, bm, bw, ba, bb⟩ kind target act sec shift failed (G.metN kind (G.spot xs) xs.length) ((G.metM kind (G.spot xs) xs.length : Nat) : Int) = needR ⟨ai, ah, ad, am, aw, aa, ab⟩ ⟨bi, bh, bd, bm, bw, ba, bb⟩ kind target act sec shift failed (G.metN kind (G.spot xs) xs.length) ((G.metM kind (G.spot xs) xs.length : Nat) : Int)) := J rfl
 obtain ⟨r, hrr⟩ : ∃ r, needR ⟨ai, ah, ad, am, aw, aa, ab⟩ ⟨bi, bh, bd, bm, bw, ba, bb⟩ kind target act sec shift failed (G.metN kind (G.spot xs) xs.length) ((G.metM kind (G.spot xs) xs.length : Nat) : Int) = r := ⟨_, rfl⟩
 have HVV := J hrr
 rw [hrr]
 clear HV hrr
 go_enter Tryz.func191, Tryz.ntmps191
 go_upto_region 1 with fail
 generalize ((w.alloc (.cells #[.int .i64 kind, .int .i64 target, .int .i64 act, .int .u64 (ai : Int), .int .u64 (ah : Int), .int .u64 (ad : Int), .int .u64 (am : Int), .int .u64 (aw : Int), .bool aa, .bool ab, .int .u64 (bi : Int), .int .u64 (bh : Int), .int .u64 (bd : Int), .int .u64 (bm : Int), .int .u64 (bw : Int), .bool ba, .bool bb] 171)).alloc (.cells #[.bool failed, .slice A xs.length cap] 264)).alloc (.cells #[.int .i64 0, .bool false] 285) = W at HB HT HR HG HN ⊢
 have z0 := HT.u.here (i := 0) rfl; have z1 := HT.u.here (i := 1) rfl; have z2 := HT.u.here (i := 2) rfl; have z3 := HT.u.here (i := 3) rfl; have z4 := HT.u.here (i := 4) rfl; have z5 := HT.u.here (i := 5) rfl; have z6 := HT.u.here (i := 6) rfl; have z7 := HT.u.here (i := 7) rfl; have z8 := HT.u.here (i := 8) rfl; have z9 := HT.u.here (i := 9) rfl; have z10 := HT.u.here (i := 10) rfl; have z11 := HT.u.here (i := 11) rfl; have z12 := HT.u.here (i := 12) rfl; have z13 := HT.u.here (i := 13) rfl; have z14 := HT.u.here (i := 14) rfl; have z15 := HT.u.here (i := 15) rfl; have z16 := HT.u.here (i := 16) rfl
 have r0 := HR.u.here (i := 0) rfl; have r1 := HR.u.here (i := 1) rfl
 have g0 := HG.u.here (i := 0) rfl; have g1 := HG.u.here (i := 1) rfl; have f0 := HG.u.soft 0; have f1 := HG.u.soft 1
 by_cases b1 : kind < 1
 ·have HF := J (show r = (0, false, 1) by rw [← HVV.u]; unfold needR; rw [if_pos (.inl b1)])
  go_wp2_with fail
  have q := (HG.u.put 0 (.int .i64 0)).put 1 (.bool false)
  have d0 := q.here (i := 0) rfl; have d1 := q.here (i := 1) rfl
  refine bodyPost_ret (v := .tuple #[.agg #[.int .i64 0, .bool false], .int .i64 1]) (by simp [results, Tryz.results191, go_sem, d0, d1]) rfl ⟨by rw [HF.u] <;> rfl, ?_⟩
  exact (HB.u.setCell (p := ⟨w.heap.size + 2, 0, none⟩) (by show w.heap.size ≤ w.heap.size + 2; omega) _).setCell (p := ⟨w.heap.size + 2, 1, none⟩) (by show w.heap.size ≤ w.heap.size + 2; omega) _
 by_cases b2 : 3 < kind
 ·have HF := J (show r = (0, false, 1) by rw [← HVV.u]; unfold needR; rw [if_pos (.inr (.inl b2))])
  have b1' : 1 ≤ kind := by omega
  clear b1
  go_wp2_with fail
  have q := (HG.u.put 0 (.int .i64 0)).put 1 (.bool false)
  have d0 := q.here (i := 0) rfl; have d1 := q.here (i := 1) rfl
  refine bodyPost_ret (v := .tuple #[.agg #[.int .i64 0, .bool false], .int .i64 1]) (by simp [results, Tryz.results191, go_sem, d0, d1]) rfl ⟨by rw [HF.u] <;> rfl, ?_⟩
  exact (HB.u.setCell (p := ⟨w.heap.size + 2, 0, none⟩) (by show w.heap.size ≤ w.heap.size + 2; omega) _).setCell (p := ⟨w.heap.size + 2, 1, none⟩) (by show w.heap.size ≤ w.heap.size + 2; omega) _
 by_cases b3 : target < 1
 ·have HF := J (show r = (0, false, 1) by rw [← HVV.u]; unfold needR; rw [if_pos (.inr (.inr b3))])
  have b1' : 1 ≤ kind := by omega
  have b2' : kind ≤ 3 := by omega
  clear b1 b2
  go_wp2_with fail
  have q := (HG.u.put 0 (.int .i64 0)).put 1 (.bool false)
  have d0 := q.here (i := 0) rfl; have d1 := q.here (i := 1) rfl
  refine bodyPost_ret (v := .tuple #[.agg #[.int .i64 0, .bool false], .int .i64 1]) (by simp [results, Tryz.results191, go_sem, d0, d1]) rfl ⟨by rw [HF.u] <;> rfl, ?_⟩
  exact (HB.u.setCell (p := ⟨w.heap.size + 2, 0, none⟩) (by show w.heap.size ≤ w.heap.size + 2; omega) _).setCell (p := ⟨w.heap.size + 2, 1, none⟩) (by show w.heap.size ≤ w.heap.size + 2; omega) _
 have b1' : 1 ≤ kind := by omega
 have b2' : kind ≤ 3 := by omega
 have b3' : 1 ≤ target := by omega
 have HVV2 := J (show r = (if kind = 3 then (if spanInE ⟨ai, ah, ad, am, aw, aa, ab⟩ ⟨bi, bh, bd, bm, bw, ba, bb⟩ sec shift = 0 ∧ spanInB ⟨ai, ah, ad, am, aw, aa, ab⟩ ⟨bi, bh, bd, bm, bw, ba, bb⟩ sec shift = true then (target, true, 0) else (0, false, spanInE ⟨ai, ah, ad, am, aw, aa, ab⟩ ⟨bi, bh, bd, bm, bw, ba, bb⟩ sec shift))
  else if failed then (0, false, 4)
  else (if kind = 1 then min (G.ceilc (G.metN kind (G.spot xs) xs.length) target) ((G.metM kind (G.spot xs) xs.length : Nat) : Int) else G.ceilc (G.metN kind (G.spot xs) xs.length) target, decide (act < (G.metN kind (G.spot xs) xs.length)), 0)) by rw [← HVV.u]; unfold needR; rw [if_neg (by omega)])
 clear b1 b2 b3 HVV
 by_cases k3 : kind = 3
 ·have HK3 := J (show r = if spanInE ⟨ai, ah, ad, am, aw, aa, ab⟩ ⟨bi, bh, bd, bm, bw, ba, bb⟩ sec shift = 0 ∧ spanInB ⟨ai, ah, ad, am, aw, aa, ab⟩ ⟨bi, bh, bd, bm, bw, ba, bb⟩ sec shift = true then (target, true, 0) else (0, false, spanInE ⟨ai, ah, ad, am, aw, aa, ab⟩ ⟨bi, bh, bd, bm, bw, ba, bb⟩ sec shift) by rw [HVV2.u, if_pos k3])
  clear HVV2
  subst k3
  go_wp2_with fail
  refine (HI.u _).mono ?_
  rintro e w1 ⟨rfl, hb1⟩
  have HB1 := J (HB.u.trans (hb1.mono HB.u.size))
  have HT1 := J (HT.u.below hb1 HT.u.inside)
  have HG1 := J (HG.u.below hb1 HG.u.inside)
  clear hb1 z0 z1 z2 z3 z4 z5 z6 z7 z8 z9 z10 z11 z12 z13 z14 z15 z16 r0 r1 f0 f1 g0 g1 HB HT HG HR
  have z0 := HT1.u.here (i := 0) rfl; have z1 := HT1.u.here (i := 1) rfl; have z2 := HT1.u.here (i := 2) rfl; have z3 := HT1.u.here (i := 3) rfl; have z4 := HT1.u.here (i := 4) rfl; have z5 := HT1.u.here (i := 5) rfl; have z6 := HT1.u.here (i := 6) rfl; have z7 := HT1.u.here (i := 7) rfl; have z8 := HT1.u.here (i := 8) rfl; have z9 := HT1.u.here (i := 9) rfl; have z10 := HT1.u.here (i := 10) rfl; have z11 := HT1.u.here (i := 11) rfl; have z12 := HT1.u.here (i := 12) rfl; have z13 := HT1.u.here (i := 13) rfl; have z14 := HT1.u.here (i := 14) rfl; have z15 := HT1.u.here (i := 15) rfl; have z16 := HT1.u.here (i := 16) rfl
  have g0 := HG1.u.here (i := 0) rfl; have g1 := HG1.u.here (i := 1) rfl; have f0 := HG1.u.soft 0; have f1 := HG1.u.soft 1
  rcases spanIn_two ⟨ai, ah, ad, am, aw, aa, ab⟩ ⟨bi, bh, bd, bm, bw, ba, bb⟩ sec shift with hE | ⟨hE, hB⟩
  ·cases hB : spanInB ⟨ai, ah, ad, am, aw, aa, ab⟩ ⟨bi, bh, bd, bm, bw, ba, bb⟩ sec shift
   ·have HF := J (show r = (0, false, 0) by rw [HK3.u, if_neg (by rw [hB]; simp), hE])
    rw [hE]
    clear hE hB
    go_wp2_with fail
    have q := (HG1.u.put 0 (.int .i64 0)).put 1 (.bool false)
    have d0 := q.here (i := 0) rfl; have d1 := q.here (i := 1) rfl
    refine bodyPost_ret (v := .tuple #[.agg #[.int .i64 0, .bool false], .int .i64 0]) (by simp [results, Tryz.results191, go_sem, d0, d1]) rfl ⟨by rw [HF.u] <;> rfl, ?_⟩
    exact (HB1.u.setCell (p := ⟨w.heap.size + 2, 0, none⟩) (by show w.heap.size ≤ w.heap.size + 2; omega) _).setCell (p := ⟨w.heap.size + 2, 1, none⟩) (by show w.heap.size ≤ w.heap.size + 2; omega) _
   have HF := J (show r = (target, true, 0) by rw [HK3.u, if_pos ⟨hE, hB⟩])
   rw [hE]
   clear hE hB
   go_wp2_with fail
   have q := (HG1.u.put 0 (.int .i64 target)).put 1 (.bool true)
   have d0 := q.here (i := 0) rfl; have d1 := q.here (i := 1) rfl
   refine bodyPost_ret (v := .tuple #[.agg #[.int .i64 target, .bool true], .int .i64 0]) (by simp [results, Tryz.results191, go_sem, d0, d1]) rfl ⟨by rw [HF.u] <;> rfl, ?_⟩
   exact (HB1.u.setCell (p := ⟨w.heap.size + 2, 0, none⟩) (by show w.heap.size ≤ w.heap.size + 2; omega) _).setCell (p := ⟨w.heap.size + 2, 1, none⟩) (by show w.heap.size ≤ w.heap.size + 2; omega) _
  have HF := J (show r = (0, false, 1) by rw [HK3.u, if_neg (by rw [hB]; simp), hE])
  rw [hE, hB]
  clear hE hB
  go_wp2_with fail
  have q := (HG1.u.put 0 (.int .i64 0)).put 1 (.bool false)
  have d0 := q.here (i := 0) rfl; have d1 := q.here (i := 1) rfl
  refine bodyPost_ret (v := .tuple #[.agg #[.int .i64 0, .bool false], .int .i64 1]) (by simp [results, Tryz.results191, go_sem, d0, d1]) rfl ⟨by rw [HF.u] <;> rfl, ?_⟩
  exact (HB1.u.setCell (p := ⟨w.heap.size + 2, 0, none⟩) (by show w.heap.size ≤ w.heap.size + 2; omega) _).setCell (p := ⟨w.heap.size + 2, 1, none⟩) (by show w.heap.size ≤ w.heap.size + 2; omega) _
 cases failed
 case true =>
  have HF := J (show r = (0, false, 4) by rw [HVV2.u, if_neg k3, if_pos rfl])
  go_wp2_with fail
  have q := (HG.u.put 0 (.int .i64 0)).put 1 (.bool false)
  have d0 := q.here (i := 0) rfl; have d1 := q.here (i := 1) rfl
  refine bodyPost_ret (v := .tuple #[.agg #[.int .i64 0, .bool false], .int .i64 4]) (by simp [results, Tryz.results191, go_sem, d0, d1]) rfl ⟨by rw [HF.u] <;> rfl, ?_⟩
  exact (HB.u.setCell (p := ⟨w.heap.size + 2, 0, none⟩) (by show w.heap.size ≤ w.heap.size + 2; omega) _).setCell (p := ⟨w.heap.size + 2, 1, none⟩) (by show w.heap.size ≤ w.heap.size + 2; omega) _
 have HVV3 := J (show r = (if kind = 1 then min (G.ceilc (G.metN kind (G.spot xs) xs.length) target) ((G.metM kind (G.spot xs) xs.length : Nat) : Int) else G.ceilc (G.metN kind (G.spot xs) xs.length) target, decide (act < (G.metN kind (G.spot xs) xs.length)), 0) by rw [HVV2.u, if_neg k3]; rfl)
 clear HVV2
 go_wp2_with fail
 refine (HM.u _ HN.u).mono ?_
 rintro e w1 ⟨rfl, hb1⟩
 have HB1 := J (HB.u.trans (hb1.mono HB.u.size))
 have HT1 := J (HT.u.below hb1 HT.u.inside)
 have HG1 := J (HG.u.below hb1 HG.u.inside)
 clear hb1 z0 z1 z2 z3 z4 z5 z6 z7 z8 z9 z10 z11 z12 z13 z14 z15 z16 r0 r1 f0 f1 g0 g1 HB HT HG HR HM HI
 have hm := HL.u
 generalize G.metN kind (G.spot xs) xs.length = N at HVV3 ⊢
 generalize G.metM kind (G.spot xs) xs.length = M at HVV3 hm ⊢
 have m0 : (0 : Int) ≤ (M : Int) := by omega
 have m1 : (M : Int) ≤ 9223372036854775807 := by omega
 clear hm
 have z0 := HT1.u.here (i := 0) rfl; have z1 := HT1.u.here (i := 1) rfl; have z2 := HT1.u.here (i := 2) rfl; have z3 := HT1.u.here (i := 3) rfl; have z4 := HT1.u.here (i := 4) rfl; have z5 := HT1.u.here (i := 5) rfl; have z6 := HT1.u.here (i := 6) rfl; have z7 := HT1.u.here (i := 7) rfl; have z8 := HT1.u.here (i := 8) rfl; have z9 := HT1.u.here (i := 9) rfl; have z10 := HT1.u.here (i := 10) rfl; have z11 := HT1.u.here (i := 11) rfl; have z12 := HT1.u.here (i := 12) rfl; have z13 := HT1.u.here (i := 13) rfl; have z14 := HT1.u.here (i := 14) rfl; have z15 := HT1.u.here (i := 15) rfl; have z16 := HT1.u.here (i := 16) rfl
 have g0 := HG1.u.here (i := 0) rfl; have g1 := HG1.u.here (i := 1) rfl; have f0 := HG1.u.soft 0; have f1 := HG1.u.soft 1
 go_wp2_with fail
 refine (numCeil_yes N target _ b3').mono ?_
 rintro e w2 ⟨rfl, rfl⟩
 have HQ := J (G.ceil_lo N b3')
 have HQ2 := J (G.ceil_hi N b3')
 generalize G.ceilc N target = C at HVV3 HQ HQ2 ⊢
 by_cases k1 : kind = 1
 ·have HK1 := J (show r = (min C (M : Int), decide (act < N), 0) by rw [HVV3.u, if_pos k1])
  clear HVV3
  subst k1
  clear HQ HQ2
  by_cases hm : C ≤ (M : Int)
  ·have HF := J (show r = (C, decide (act < N), 0) by rw [HK1.u, Int.min_eq_left hm])
   go_wp2_with fail
   have q := (HG1.u.put 0 (.int .i64 C)).put 1 (.bool (decide (act < N)))
   have d0 := q.here (i := 0) rfl; have d1 := q.here (i := 1) rfl
   refine bodyPost_ret (v := .tuple #[.agg #[.int .i64 C, .bool (decide (act < N))], .int .i64 0]) (by simp [results, Tryz.results191, go_sem, d0, d1]) rfl ⟨by rw [HF.u] <;> rfl, ?_⟩
   exact (HB1.u.setCell (p := ⟨w.heap.size + 2, 0, none⟩) (by show w.heap.size ≤ w.heap.size + 2; omega) _).setCell (p := ⟨w.heap.size + 2, 1, none⟩) (by show w.heap.size ≤ w.heap.size + 2; omega) _
  have hm' : (M : Int) < C := by omega
  have hmn : min C (M : Int) = (M : Int) := by omega
  have HMn := J hmn
  clear hm hmn
  have HF := J (show r = ((M : Int), decide (act < N), 0) by rw [HK1.u, HMn.u])
  go_wp2_with fail
  have q := (HG1.u.put 0 (.int .i64 (M : Int))).put 1 (.bool (decide (act < N)))
  have d0 := q.here (i := 0) rfl; have d1 := q.here (i := 1) rfl
  refine bodyPost_ret (v := .tuple #[.agg #[.int .i64 (M : Int), .bool (decide (act < N))], .int .i64 0]) (by simp [results, Tryz.results191, go_sem, d0, d1]) rfl ⟨by rw [HF.u] <;> rfl, ?_⟩
  exact (HB1.u.setCell (p := ⟨w.heap.size + 2, 0, none⟩) (by show w.heap.size ≤ w.heap.size + 2; omega) _).setCell (p := ⟨w.heap.size + 2, 1, none⟩) (by show w.heap.size ≤ w.heap.size + 2; omega) _
 have HF := J (show r = (C, decide (act < N), 0) by rw [HVV3.u, if_neg k1])
 go_wp2_with fail
 have q := (HG1.u.put 0 (.int .i64 C)).put 1 (.bool (decide (act < N)))
 have d0 := q.here (i := 0) rfl; have d1 := q.here (i := 1) rfl
 refine bodyPost_ret (v := .tuple #[.agg #[.int .i64 C, .bool (decide (act < N))], .int .i64 0]) (by simp [results, Tryz.results191, go_sem, d0, d1]) rfl ⟨by rw [HF.u] <;> rfl, ?_⟩
 exact (HB1.u.setCell (p := ⟨w.heap.size + 2, 0, none⟩) (by show w.heap.size ≤ w.heap.size + 2; omega) _).setCell (p := ⟨w.heap.size + 2, 1, none⟩) (by show w.heap.size ≤ w.heap.size + 2; omega) _
end Go.Proofs.YtoidcbpcnikejaaGreatDoor
