/- The contract of plan.Check. -/
import Derived.Test.YtoidcbpcnikejaaGreatDoorDqPlnD
set_option linter.unusedVariables false
set_option linter.unusedSimpArgs false
set_option maxRecDepth 100000
set_option maxHeartbeats 12800000
namespace Go.Proofs.YtoidcbpcnikejaaGreatDoor
open Go.RowKit
theorem planCheck (name : ByteArray) (mn mx poll cool tol back after shift u0 u1 u2 u3 d0 d1 d2 d3 : Int) (A : Option Addr) (cap : Nat) (ts : List Trg) (w : World) (ht : G.ListIn w 17 Trg.enc (.slice A ts.length cap) ts) (hf : ∀ t ∈ ts, t.fits) (hn : name.size ≤ 9223372036854775807) (hl : ts.length ≤ 9223372036854775807) :
  Calls Tryz.prog 77 #[.agg #[.string name, .int .i64 mn, .int .i64 mx, .int .i64 poll, .int .i64 cool, .int .i64 tol, .int .i64 back, .int .i64 after, .int .i64 shift, .int .i64 u0, .int .i64 u1, .int .i64 u2, .int .i64 u3, .int .i64 d0, .int .i64 d1, .int .i64 d2, .int .i64 d3, .slice A ts.length cap]] w fun e w' => e = .returned (.int .i64 (planE ⟨name, mn, mx, poll, cool, tol, back, after, shift, ⟨u0, u1, u2, u3⟩, ⟨d0, d1, d2, d3⟩, ts⟩)) ∧ Below w.heap.size w w' := by
 have HB := J ((Below.refl w.heap.size w).alloc (Nat.le_refl _) (.cells #[.string name, .int .i64 mn, .int .i64 mx, .int .i64 poll, .int .i64 cool, .int .i64 tol, .int .i64 back, .int .i64 after, .int .i64 shift, .int .i64 u0, .int .i64 u1, .int .i64 u2, .int .i64 u3, .int .i64 d0, .int .i64 d1, .int .i64 d2, .int .i64 d3, .slice A ts.length cap] 101))
 have HX := J (G.At.made w 101 #[.string name, .int .i64 mn, .int .i64 mx, .int .i64 poll, .int .i64 cool, .int .i64 tol, .int .i64 back, .int .i64 after, .int .i64 shift, .int .i64 u0, .int .i64 u1, .int .i64 u2, .int .i64 u3, .int .i64 d0, .int .i64 d1, .int .i64 d2, .int .i64 d3, .slice A ts.length cap])
 have HT := J (ht.below HB.u (Nat.le_refl _))
 have HFt := J hf
 have HName := J (fun (W : World) => planNamed name hn W)
 obtain ⟨mm, hmm⟩ : ∃ mm, max 1 mn = mm := ⟨_, rfl⟩
 have E1 : (if 1 < mn then mn else 1) = mm := by rw [← hmm]; split <;> omega
 have HP := J (show planE ⟨name, mn, mx, poll, cool, tol, back, after, shift, ⟨u0, u1, u2, u3⟩, ⟨d0, d1, d2, d3⟩, ts⟩ = if nameOk name = false then 3 else if 5 < ts.length then 2 else if (wiB mn 0 50 && (wiB mx mm 50 && (wiB poll 1 100000 && (wiB cool 1 100000 && (wiB tol 0 1000 && (wiB back 0 50 && (wiB after 0 100 && (wiB shift (-900) 900 && (paceOk ⟨u0, u1, u2, u3⟩ && paceOk ⟨d0, d1, d2, d3⟩))))))))) = false then 1 else trigsE ts by rw [← hmm]; rfl)
 obtain ⟨R, hR⟩ : ∃ R, planE ⟨name, mn, mx, poll, cool, tol, back, after, shift, ⟨u0, u1, u2, u3⟩, ⟨d0, d1, d2, d3⟩, ts⟩ = R := ⟨_, rfl⟩
 rw [hR] at HP ⊢
 have HL := J hl
 clear hR hmm hf ht hn
 go_enter Tryz.func77, Tryz.ntmps77
 go_upto_region 1 with fail
 generalize w.alloc (.cells #[.string name, .int .i64 mn, .int .i64 mx, .int .i64 poll, .int .i64 cool, .int .i64 tol, .int .i64 back, .int .i64 after, .int .i64 shift, .int .i64 u0, .int .i64 u1, .int .i64 u2, .int .i64 u3, .int .i64 d0, .int .i64 d1, .int .i64 d2, .int .i64 d3, .slice A ts.length cap] 101) = W at HB HX HT ⊢
 have z0 := HX.u.here (i := 0) rfl; have z1 := HX.u.here (i := 1) rfl; have z2 := HX.u.here (i := 2) rfl; have z3 := HX.u.here (i := 3) rfl; have z4 := HX.u.here (i := 4) rfl; have z5 := HX.u.here (i := 5) rfl; have z6 := HX.u.here (i := 6) rfl; have z7 := HX.u.here (i := 7) rfl; have z8 := HX.u.here (i := 8) rfl; have z9 := HX.u.here (i := 9) rfl; have z10 := HX.u.here (i := 10) rfl; have z11 := HX.u.here (i := 11) rfl; have z12 := HX.u.here (i := 12) rfl; have z13 := HX.u.here (i := 13) rfl; have z14 := HX.u.here (i := 14) rfl; have z15 := HX.u.here (i := 15) rfl; have z16 := HX.u.here (i := 16) rfl; have z17 := HX.u.here (i := 17) rfl
 go_wp2_with fail
 refine (HName.u _).mono ?_
 rintro e w' ⟨rfl, rfl⟩
 generalize nameOk name = n0 at HP ⊢
 cases n0
 ·go_wp2_with fail
  go_ret
  exact ⟨by rw [HP.u] <;> rfl, HB.u⟩
 by_cases hlen : 5 < ts.length
 ·have HP2 := J (show R = 2 by rw [HP.u, if_neg (by simp), if_pos hlen])
  have h5 : (5 : Int) < (ts.length : Int) := by omega
  clear hlen
  go_wp2_with fail
  go_ret
  exact ⟨by rw [HP2.u] <;> rfl, HB.u⟩
 have HP2 := J (show R = if (wiB mn 0 50 && (wiB mx mm 50 && (wiB poll 1 100000 && (wiB cool 1 100000 && (wiB tol 0 1000 && (wiB back 0 50 && (wiB after 0 100 && (wiB shift (-900) 900 && (paceOk ⟨u0, u1, u2, u3⟩ && paceOk ⟨d0, d1, d2, d3⟩))))))))) = false then 1 else trigsE ts by rw [HP.u, if_neg (by simp), if_neg hlen])
 have h5 : (ts.length : Int) ≤ 5 := by omega
 clear hlen HP
 go_wp2_with fail
 refine (planWithin mn 0 50 _).mono ?_
 rintro e w' ⟨rfl, rfl⟩
 generalize wiB mn 0 50 = y0 at HP2 ⊢
 cases y0
 ·have HP3 := J (show R = 1 by rw [HP2.u]; rfl)
  go_wp2_with fail
  go_ret
  exact ⟨by rw [HP3.u] <;> rfl, HB.u⟩
 go_wp2_with fail
 refine (planWithin mx mm 50 _).mono ?_
 rintro e w' ⟨rfl, rfl⟩
 generalize wiB mx mm 50 = y1 at HP2 ⊢
 cases y1
 ·have HP3 := J (show R = 1 by rw [HP2.u]; rfl)
  go_wp2_with fail
  go_ret
  exact ⟨by rw [HP3.u] <;> rfl, HB.u⟩
 as_aux_lemma =>
 go_wp2_with fail
 refine (planWithin poll 1 100000 _).mono ?_
 rintro e w' ⟨rfl, rfl⟩
 generalize wiB poll 1 100000 = y2 at HP2 ⊢
 cases y2
 ·have HP3 := J (show R = 1 by rw [HP2.u]; rfl)
  go_wp2_with fail
  go_ret
  exact ⟨by rw [HP3.u] <;> rfl, HB.u⟩
 go_wp2_with fail
 refine (planWithin cool 1 100000 _).mono ?_
 rintro e w' ⟨rfl, rfl⟩
 generalize wiB cool 1 100000 = y3 at HP2 ⊢
 cases y3
 ·have HP3 := J (show R = 1 by rw [HP2.u]; rfl)
  go_wp2_with fail
  go_ret
  exact ⟨by rw [HP3.u] <;> rfl, HB.u⟩
 as_aux_lemma =>
 go_wp2_with fail
 refine (planWithin tol 0 1000 _).mono ?_
 rintro e w' ⟨rfl, rfl⟩
 generalize wiB tol 0 1000 = y4 at HP2 ⊢
 cases y4
 ·have HP3 := J (show R = 1 by rw [HP2.u]; rfl)
  go_wp2_with fail
  go_ret
  exact ⟨by rw [HP3.u] <;> rfl, HB.u⟩
 go_wp2_with fail
 refine (planWithin back 0 50 _).mono ?_
 rintro e w' ⟨rfl, rfl⟩
 generalize wiB back 0 50 = y5 at HP2 ⊢
 cases y5
 ·have HP3 := J (show R = 1 by rw [HP2.u]; rfl)
  go_wp2_with fail
  go_ret
  exact ⟨by rw [HP3.u] <;> rfl, HB.u⟩
 as_aux_lemma =>
 go_wp2_with fail
 refine (planWithin after 0 100 _).mono ?_
 rintro e w' ⟨rfl, rfl⟩
 generalize wiB after 0 100 = y6 at HP2 ⊢
 cases y6
 ·have HP3 := J (show R = 1 by rw [HP2.u]; rfl)
  go_wp2_with fail
  go_ret
  exact ⟨by rw [HP3.u] <;> rfl, HB.u⟩
 go_wp2_with fail
 refine (planWithin shift (-900) 900 _).mono ?_
 rintro e w' ⟨rfl, rfl⟩
 generalize wiB shift (-900) 900 = y7 at HP2 ⊢
 cases y7
 ·have HP3 := J (show R = 1 by rw [HP2.u]; rfl)
  go_wp2_with fail
  go_ret
  exact ⟨by rw [HP3.u] <;> rfl, HB.u⟩
 as_aux_lemma =>
 go_wp2_with fail
 refine (planPace u0 u1 u2 u3 _).mono ?_
 rintro e wp8 ⟨rfl, hbp⟩
 have HBp8 := J (HB.u.trans (hbp.mono HB.u.size))
 have HXp8 := J (HX.u.below hbp HX.u.inside)
 have HTp8 := J (HT.u.below hbp (Nat.le_refl _))
 clear hbp z0 z1 z2 z3 z4 z5 z6 z7 z8 z9 z10 z11 z12 z13 z14 z15 z16 z17
 have z0 := HXp8.u.here (i := 0) rfl; have z1 := HXp8.u.here (i := 1) rfl; have z2 := HXp8.u.here (i := 2) rfl; have z3 := HXp8.u.here (i := 3) rfl; have z4 := HXp8.u.here (i := 4) rfl; have z5 := HXp8.u.here (i := 5) rfl; have z6 := HXp8.u.here (i := 6) rfl; have z7 := HXp8.u.here (i := 7) rfl; have z8 := HXp8.u.here (i := 8) rfl; have z9 := HXp8.u.here (i := 9) rfl; have z10 := HXp8.u.here (i := 10) rfl; have z11 := HXp8.u.here (i := 11) rfl; have z12 := HXp8.u.here (i := 12) rfl; have z13 := HXp8.u.here (i := 13) rfl; have z14 := HXp8.u.here (i := 14) rfl; have z15 := HXp8.u.here (i := 15) rfl; have z16 := HXp8.u.here (i := 16) rfl; have z17 := HXp8.u.here (i := 17) rfl
 generalize paceOk ⟨u0, u1, u2, u3⟩ = y8 at HP2 ⊢
 cases y8
 ·have HP3 := J (show R = 1 by rw [HP2.u]; rfl)
  go_wp2_with fail
  go_ret
  exact ⟨by rw [HP3.u] <;> rfl, HBp8.u⟩
 as_aux_lemma =>
 go_wp2_with fail
 refine (planPace d0 d1 d2 d3 _).mono ?_
 rintro e wp9 ⟨rfl, hbp⟩
 have HBp9 := J (HBp8.u.trans (hbp.mono HBp8.u.size))
 have HXp9 := J (HXp8.u.below hbp HXp8.u.inside)
 have HTp9 := J (HTp8.u.below hbp (Nat.le_refl _))
 clear hbp z0 z1 z2 z3 z4 z5 z6 z7 z8 z9 z10 z11 z12 z13 z14 z15 z16 z17
 have x17 := HXp9.u.here (i := 17) rfl
 
 generalize paceOk ⟨d0, d1, d2, d3⟩ = y9 at HP2 ⊢
 cases y9
 ·have HP3 := J (show R = 1 by rw [HP2.u]; rfl)
  go_wp2_with fail
  go_ret
  exact ⟨by rw [HP3.u] <;> rfl, HBp9.u⟩
 have HX := HXp9; have HT := HTp9; have HBw := HBp9
 clear HBp8 HXp8 HTp8 HBp9 HXp9 HTp9 HB
 have HP3 := J (show R = trigsE ts by rw [HP2.u]; rfl)
 clear HP2
 as_aux_lemma =>
 go_wp2_with fail
 go_loopw [64] (fun i wr => ∃ k : Nat, k ≤ ts.length ∧ i = .int .i64 k ∧ Hid (∀ q u, q < k → ts[q]? = some u → trigE u = 0) ∧ Hid (Below wp9.heap.size wp9 wr)) (fun i _ => ts.length - (intOf i).toNat)
 case atStart => exact ⟨0, by omega, rfl, J (fun q u hq => by omega), J (Below.refl _ _)⟩
 obtain ⟨k, hk, rfl, HN, HBr⟩ := hrel
 by_cases hlt : k < ts.length
 ·as_aux_lemma =>
  obtain ⟨t, htk⟩ := G.get_some ts hlt
  obtain ⟨A', cap', e, hc⟩ := HT.u.below HBr.u (Nat.le_refl _)
  cases e
  obtain ⟨b, off, rfl, hbl, hcl⟩ := hc (by omega)
  have HFk := J (HFt.u t (List.mem_of_getElem? htk))
  have HYes := J (fun (h : trigE t = 0) => (show ∀ q u, q < k + 1 → ts[q]? = some u → trigE u = 0 from fun q u hq hu => by
   rcases Nat.lt_succ_iff_lt_or_eq.1 hq with c | c
   ·exact HN.u q u c hu
   subst c; rw [htk] at hu; cases hu; exact h))
  have HNo := J (fun (h : trigE t ≠ 0) => trigsE_at htk HN.u h)
  obtain ⟨kind, target, act, ⟨ai, ah, ad, am, aw, aa, ab⟩, ⟨bi, bh, bd, bm, bw, ba, bb⟩⟩ := t
  have c0 : wr.cell? ⟨b, off + k * 17, none⟩ = some (.int .i64 kind) := hcl k _ 0 _ htk rfl; have c1 : wr.cell? ⟨b, off + k * 17 + 1, none⟩ = some (.int .i64 target) := hcl k _ 1 _ htk rfl; have c2 : wr.cell? ⟨b, off + k * 17 + 2, none⟩ = some (.int .i64 act) := hcl k _ 2 _ htk rfl; have c3 : wr.cell? ⟨b, off + k * 17 + 3, none⟩ = some (.int .u64 (ai : Int)) := hcl k _ 3 _ htk rfl; have c4 : wr.cell? ⟨b, off + k * 17 + 4, none⟩ = some (.int .u64 (ah : Int)) := hcl k _ 4 _ htk rfl; have c5 : wr.cell? ⟨b, off + k * 17 + 5, none⟩ = some (.int .u64 (ad : Int)) := hcl k _ 5 _ htk rfl; have c6 : wr.cell? ⟨b, off + k * 17 + 6, none⟩ = some (.int .u64 (am : Int)) := hcl k _ 6 _ htk rfl; have c7 : wr.cell? ⟨b, off + k * 17 + 7, none⟩ = some (.int .u64 (aw : Int)) := hcl k _ 7 _ htk rfl; have c8 : wr.cell? ⟨b, off + k * 17 + 8, none⟩ = some (.bool aa) := hcl k _ 8 _ htk rfl; have c9 : wr.cell? ⟨b, off + k * 17 + 9, none⟩ = some (.bool ab) := hcl k _ 9 _ htk rfl; have c10 : wr.cell? ⟨b, off + k * 17 + 10, none⟩ = some (.int .u64 (bi : Int)) := hcl k _ 10 _ htk rfl; have c11 : wr.cell? ⟨b, off + k * 17 + 11, none⟩ = some (.int .u64 (bh : Int)) := hcl k _ 11 _ htk rfl; have c12 : wr.cell? ⟨b, off + k * 17 + 12, none⟩ = some (.int .u64 (bd : Int)) := hcl k _ 12 _ htk rfl; have c13 : wr.cell? ⟨b, off + k * 17 + 13, none⟩ = some (.int .u64 (bm : Int)) := hcl k _ 13 _ htk rfl; have c14 : wr.cell? ⟨b, off + k * 17 + 14, none⟩ = some (.int .u64 (bw : Int)) := hcl k _ 14 _ htk rfl; have c15 : wr.cell? ⟨b, off + k * 17 + 15, none⟩ = some (.bool ba) := hcl k _ 15 _ htk rfl; have c16 : wr.cell? ⟨b, off + k * 17 + 16, none⟩ = some (.bool bb) := hcl k _ 16 _ htk rfl
  have i0 : (0 : Int) ≤ (k : Int) := by omega
  have i1 : (k : Int) < (ts.length : Int) := by omega
  have HK := J hlt
  clear hc hcl htk hk hlt
  go_upto_region 20 with fail
  have HB2 := J (HBr.u.alloc HBr.u.size (.cells #[.int .i64 kind, .int .i64 target, .int .i64 act, .int .u64 (ai : Int), .int .u64 (ah : Int), .int .u64 (ad : Int), .int .u64 (am : Int), .int .u64 (aw : Int), .bool aa, .bool ab, .int .u64 (bi : Int), .int .u64 (bh : Int), .int .u64 (bd : Int), .int .u64 (bm : Int), .int .u64 (bw : Int), .bool ba, .bool bb] 171))
  have HG := J (G.At.made wr 171 #[.int .i64 kind, .int .i64 target, .int .i64 act, .int .u64 (ai : Int), .int .u64 (ah : Int), .int .u64 (ad : Int), .int .u64 (am : Int), .int .u64 (aw : Int), .bool aa, .bool ab, .int .u64 (bi : Int), .int .u64 (bh : Int), .int .u64 (bd : Int), .int .u64 (bm : Int), .int .u64 (bw : Int), .bool ba, .bool bb])
  generalize wr.alloc (.cells #[.int .i64 kind, .int .i64 target, .int .i64 act, .int .u64 (ai : Int), .int .u64 (ah : Int), .int .u64 (ad : Int), .int .u64 (am : Int), .int .u64 (aw : Int), .bool aa, .bool ab, .int .u64 (bi : Int), .int .u64 (bh : Int), .int .u64 (bd : Int), .int .u64 (bm : Int), .int .u64 (bw : Int), .bool ba, .bool bb] 171) = W2 at HB2 HG ⊢
  generalize wr.heap.size = g at HG ⊢
  clear c0 c1 c2 c3 c4 c5 c6 c7 c8 c9 c10 c11 c12 c13 c14 c15 c16 HBr
  as_aux_lemma =>
  have c0 := HG.u.here (i := 0) rfl; have c1 := HG.u.here (i := 1) rfl; have c2 := HG.u.here (i := 2) rfl; have c3 := HG.u.here (i := 3) rfl; have c4 := HG.u.here (i := 4) rfl; have c5 := HG.u.here (i := 5) rfl; have c6 := HG.u.here (i := 6) rfl; have c7 := HG.u.here (i := 7) rfl; have c8 := HG.u.here (i := 8) rfl; have c9 := HG.u.here (i := 9) rfl; have c10 := HG.u.here (i := 10) rfl; have c11 := HG.u.here (i := 11) rfl; have c12 := HG.u.here (i := 12) rfl; have c13 := HG.u.here (i := 13) rfl; have c14 := HG.u.here (i := 14) rfl; have c15 := HG.u.here (i := 15) rfl; have c16 := HG.u.here (i := 16) rfl
  go_wp2_with fail
  refine (planTrigger ai ah ad am aw bi bh bd bm bw aa ab ba bb HFk.u.1 HFk.u.2 kind target act _).mono ?_
  rintro e w3 ⟨rfl, hb3⟩
  have HB3 := J (HB2.u.trans (hb3.mono HB2.u.size))
  clear hb3 c0 c1 c2 c3 c4 c5 c6 c7 c8 c9 c10 c11 c12 c13 c14 c15 c16 HG
  have HBe := J (HBw.u.trans (HB3.u.mono HBw.u.size))
  generalize trigE ⟨kind, target, act, ⟨ai, ah, ad, am, aw, aa, ab⟩, ⟨bi, bh, bd, bm, bw, ba, bb⟩⟩ = E at HYes HNo ⊢
  by_cases hE : E = 0
  ·have HF := J (HYes.u hE)
   subst hE
   go_wp2_with fail
   go_roundw
   case rel => exact ⟨k + 1, by have := HK.u; omega, by go_num, HF, HB3⟩
   case measure => have := HK.u; simp [intOf]; omega
  have HF := J (HP3.u.trans (HNo.u hE))
  have e1 : (E == 0) = false := by simpa using hE
  have e2 : (E != 0) = true := by simpa using hE
  clear hE
  go_wp2_with fail
  go_ret
  exact ⟨by rw [HF.u] <;> rfl, HBe.u⟩
 as_aux_lemma =>
 have hie : k = ts.length := by omega
 subst hie
 have hall : ∀ t ∈ ts, trigE t = 0 := fun t ht => by
  obtain ⟨i, hi, rfl⟩ := List.mem_iff_getElem.1 ht
  exact HN.u i _ hi (List.getElem?_eq_getElem hi)
 have HF := J (show R = 0 by rw [HP3.u]; exact trigsE_all hall)
 clear hall
 have HBe := J (HBw.u.trans (HBr.u.mono HBw.u.size))
 clear hk hlt
 go_wp2_with fail
 go_ret
 exact ⟨by rw [HF.u] <;> rfl, HBe.u⟩
end Go.Proofs.YtoidcbpcnikejaaGreatDoor
