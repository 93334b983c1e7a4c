/- The contract of the reference's Seek. -/
import Derived.Test.YtidonhndeohdlaaGreatWl15
set_option linter.unusedVariables false
set_option linter.unusedSimpArgs false
set_option maxRecDepth 100000
set_option maxHeartbeats 12800000
namespace Go.Proofs.YtidonhndeohdlaaGreat
open Go.RowKit
def Cr.dayFitR (c : Cr) (shift at0 : Int) : Bool := c.day (G.moOf ((at0 + 60 * shift) / 86400)) (G.dyOf ((at0 + 60 * shift) / 86400)) (((at0 + 60 * shift) / 86400 + 4) % 7)
def Cr.hitR (c : Cr) (sec shift side : Int) (i : Nat) : Bool := c.dayFitR shift (dayAt sec shift side i) && (c.inDay (dayAt sec shift side i) sec side).isSome
def Cr.seekR (c : Cr) (sec shift side : Int) : Option Int := match G.firstUnder (c.hitR sec shift side) 3001 with | none => none | some i => inTime (c.inDay (dayAt sec shift side i) sec side)
theorem day_no {st shift : Int} {sec : Int} (h : st = sec - (sec + 60 * shift) % 86400) (side : Int) (i : Nat) (a : Int) (ha : a = st + side * i * 86400) : a + shift * 60 = 86400 * ((sec + 60 * shift) / 86400 + side * i) := by
 generalize side * (i : Int) = q at ha ⊢
 omega
theorem exact_day {x D : Int} (h : x = 86400 * D) : x.tdiv 86400 = D ∧ x.tmod 86400 = 0 := by
 subst h
 exact ⟨Int.mul_tdiv_cancel_left _ (by decide), Int.mul_tmod_right _ _⟩
theorem in_none {c : Cr} {a sec side : Int} (h : ∀ q, q < 1440 → c.minB a sec side q = false) : c.inDay a sec side = none := by
 unfold Cr.inDay; rw [G.under_all h]; rfl
theorem in_some {c : Cr} {a sec side : Int} {k : Nat} (hk : k < 1440) (hb : c.minB a sec side k = true) (h : ∀ q, q < k → c.minB a sec side q = false) : c.inDay a sec side = some (a + 60 * G.minOf side k) := by
 unfold Cr.inDay; rw [G.under_is hk hb h]; rfl
theorem below_succ {p : Nat → Bool} {k : Nat} (h : ∀ q, q < k → p q = false) (hk : p k = false) : ∀ q, q < k + 1 → p q = false := fun q hq => by
 rcases Nat.lt_succ_iff_lt_or_eq.1 hq with c | c
 ·exact h q c
 rw [c]; exact hk
theorem full_has (n : Int) (h0 : 0 ≤ n) : (n ≤ 59 → hasB 1152921504606846975 n = true) ∧ (n ≤ 23 → hasB 16777215 n = true) := by
 obtain ⟨k, rfl⟩ := Int.eq_ofNat_of_zero_le h0
 have e1 : (1152921504606846975 : Nat) = 2 ^ 60 - 1 := by decide
 have e2 : (16777215 : Nat) = 2 ^ 24 - 1 := by decide
 constructor
 ·intro h
  rw [hasB_nat _ _ (by omega), e1, Nat.testBit_two_pow_sub_one]; simp; omega
 intro h
 rw [hasB_nat _ _ (by omega), e2, Nat.testBit_two_pow_sub_one]; simp; omega
theorem refSeekDn (c : Cr) (hf : c.fits) (sec shift : Int) (w : World) (hot : okTime sec shift) :
  Calls Tryz.prog 155 #[.agg c.cells, .int .i64 sec, .int .i64 shift, .int .i64 (-1)] w fun e w' => e = .returned (foundV (c.seekR sec shift (-1))) ∧ Below w.heap.size w w' := by
 obtain ⟨ci, ch, cd, cm, cw, ad, aw⟩ := c
 have HC := J hf
 have HB0 := J ((Below.refl w.heap.size w).alloc (Nat.le_refl _) (.cells #[.int .u64 (ci : Int), .int .u64 (ch : Int), .int .u64 (cd : Int), .int .u64 (cm : Int), .int .u64 (cw : Int), .bool ad, .bool aw] 59))
 have HX0 := J (G.At.made w 59 #[.int .u64 (ci : Int), .int .u64 (ch : Int), .int .u64 (cd : Int), .int .u64 (cm : Int), .int .u64 (cw : Int), .bool ad, .bool aw])
 have HOt := J hot
 have HCf := J (show Cr.fits ⟨1152921504606846975, 16777215, cd, cm, cw, ad, aw⟩ from ⟨(by decide : 1152921504606846975 < 18446744073709551616), (by decide : 16777215 < 18446744073709551616), hf.2.2.1, hf.2.2.2.1, hf.2.2.2.2⟩)
 obtain ⟨R, hR⟩ : ∃ R, Hid (Cr.seekR ⟨ci, ch, cd, cm, cw, ad, aw⟩ sec shift (-1) = R) := ⟨_, J rfl⟩
 rw [hR.u]
 obtain ⟨t0, t1, t2, t3⟩ := hot
 clear hf
 unfold Cr.cells
 go_enter Tryz.func155, Tryz.ntmps155
 go_wp2_with fail
 refine (refOf_yes sec shift _ HOt.u).mono ?_
 rintro e w2 ⟨rfl, hb2⟩
 have HB2 := J (HB0.u.trans (hb2.mono HB0.u.size))
 have HX2 := J (HX0.u.below hb2 HX0.u.inside)
 clear hb2 HB0 HX0
 unfold civAgg
 obtain ⟨h0, h1, m0, m1, s0, s1, hsum⟩ := rest_parts (sec + 60 * shift)
 obtain ⟨st, hSt⟩ : ∃ st, Hid (dayStart sec shift = st) := ⟨_, J rfl⟩
 have hst : dayStart sec shift = sec - (sec + 60 * shift) % 86400 := rfl
 have HStE := J (show st = sec - (sec + 60 * shift) % 86400 by rw [← hSt.u]; rfl)
 generalize (sec + 60 * shift) % 86400 / 3600 = hh at h0 h1 hsum ⊢
 generalize (sec + 60 * shift) % 86400 / 60 % 60 = hm at m0 m1 hsum ⊢
 generalize (sec + 60 * shift) % 86400 % 60 = hs at s0 s1 hsum ⊢
 have q1 : IntKind.i64.wrap (hh * 60) = hh * 60 := IntWalk.i64_in _ (by omega)
 have q2 : IntKind.i64.wrap (hh * 60 + hm) = hh * 60 + hm := IntWalk.i64_in _ (by omega)
 have q3 : IntKind.i64.wrap ((hh * 60 + hm) * 60) = (hh * 60 + hm) * 60 := IntWalk.i64_in _ (by omega)
 have q4 : IntKind.i64.wrap (sec - (hh * 60 + hm) * 60) = sec - (hh * 60 + hm) * 60 := IntWalk.i64_in _ (by omega)
 have q5 : IntKind.i64.wrap (sec - (hh * 60 + hm) * 60 - hs) = sec - (hh * 60 + hm) * 60 - hs := IntWalk.i64_in _ (by omega)
 have q6 : sec - (hh * 60 + hm) * 60 - hs = st := by rw [← hSt.u, hst, ← hsum]; omega
 have st0 : -100000100000 ≤ st := by have := HStE.u; omega
 have st1 : st ≤ 100000000000 := by have := HStE.u; omega
 go_upto_region 3 with fail
 try rw [q6]
 clear q1 q2 q3 q4 q5 q6 h0 h1 m0 m1 s0 s1 hsum hst
 have HB3 := J (HB2.u.alloc HB2.u.size (.cells #[.int .i64 (G.yrOf ((sec + 60 * shift) / 86400)), .int .i64 (G.moOf ((sec + 60 * shift) / 86400)), .int .i64 (G.dyOf ((sec + 60 * shift) / 86400)), .int .i64 hh, .int .i64 hm, .int .i64 hs, .int .i64 (((sec + 60 * shift) / 86400 + 4) % 7)] 192))
 have HX3 := J (HX2.u.alloc (.cells #[.int .i64 (G.yrOf ((sec + 60 * shift) / 86400)), .int .i64 (G.moOf ((sec + 60 * shift) / 86400)), .int .i64 (G.dyOf ((sec + 60 * shift) / 86400)), .int .i64 hh, .int .i64 hm, .int .i64 hs, .int .i64 (((sec + 60 * shift) / 86400 + 4) % 7)] 192))
 clear HB2 HX2
 go_wp2_with fail
 generalize w2.alloc (.cells #[.int .i64 (G.yrOf ((sec + 60 * shift) / 86400)), .int .i64 (G.moOf ((sec + 60 * shift) / 86400)), .int .i64 (G.dyOf ((sec + 60 * shift) / 86400)), .int .i64 hh, .int .i64 hm, .int .i64 hs, .int .i64 (((sec + 60 * shift) / 86400 + 4) % 7)] 192) = W at HB3 HX3 ⊢
 go_loopw [13] (fun x wr => ∃ i : Nat, i ≤ 3001 ∧ x = .int .i64 i ∧ Hid (∀ q, q < i → Cr.hitR ⟨ci, ch, cd, cm, cw, ad, aw⟩ sec shift (-1) q = false) ∧ Hid (Below W.heap.size W wr)) (fun x _ => 3001 - (intOf x).toNat)
 case atStart => exact ⟨0, by omega, rfl, J (fun q hq => by omega), J (Below.refl _ _)⟩
 obtain ⟨i, hi, rfl, HN, HB⟩ := hrel
 by_cases hlt : i < 3001
 ·have i0 : (0 : Int) ≤ (i : Int) := by omega
  have i1 : (i : Int) ≤ 3000 := by omega
  have q1 : IntKind.i64.wrap ((-1) * (i : Int)) = (-1) * (i : Int) := IntWalk.i64_in _ (by omega)
  have q2 : IntKind.i64.wrap ((-1) * (i : Int) * 86400) = (-1) * (i : Int) * 86400 := IntWalk.i64_in _ (by omega)
  have q3 : IntKind.i64.wrap (st + (-1) * (i : Int) * 86400) = st + (-1) * (i : Int) * 86400 := IntWalk.i64_in _ (by omega)
  go_upto_region 7 with fail
  obtain ⟨a, ha⟩ : ∃ a, Hid (st + -(i : Int) * 86400 = a) := ⟨_, J rfl⟩
  rw [ha.u]
  have HDa := J (show dayAt sec shift (-1) i = a by unfold dayAt; rw [hSt.u, ← ha.u]; omega)
  obtain ⟨D, hD⟩ : ∃ D, Hid ((sec + 60 * shift) / 86400 + (-1) * (i : Int) = D) := ⟨_, J rfl⟩
  have HaD := J (show a + shift * 60 = 86400 * D from hD.u ▸ day_no HStE.u (-1) i a (by rw [← ha.u]; omega))
  have a0 : -100300000000 ≤ a := by have := ha.u; omega
  have a1 : a ≤ 100300000000 := by have := ha.u; omega
  have d0 : -4000000 ≤ D := by have := HaD.u; omega
  have d1 : D ≤ 4000000 := by have := HaD.u; omega
  have HDv := J (show (a + 60 * shift) / 86400 = D by have := HaD.u; omega)
  have HHit := J (show Cr.hitR ⟨ci, ch, cd, cm, cw, ad, aw⟩ sec shift (-1) i = (Cr.day ⟨ci, ch, cd, cm, cw, ad, aw⟩ (G.moOf D) (G.dyOf D) ((D + 4) % 7) && (Cr.inDay ⟨ci, ch, cd, cm, cw, ad, aw⟩ a sec (-1)).isSome) by unfold Cr.hitR Cr.dayFitR; rw [HDa.u, HDv.u])
  have HNo := J (fun (h : Cr.hitR ⟨ci, ch, cd, cm, cw, ad, aw⟩ sec shift (-1) i = false) => below_succ HN.u h)
  have HYes := J (fun (h : Cr.hitR ⟨ci, ch, cd, cm, cw, ad, aw⟩ sec shift (-1) i = true) => (show R = inTime (Cr.inDay ⟨ci, ch, cd, cm, cw, ad, aw⟩ a sec (-1)) by rw [← hR.u]; unfold Cr.seekR; rw [G.under_is hlt h HN.u]; simp only [HDa.u]))
  have e1 : (a + shift * 60).tdiv 86400 = D := (exact_day HaD.u).1
  have e2 : (a + shift * 60).tmod 86400 = 0 := (exact_day HaD.u).2
  have HRw := J (show rest (D + 4) 7 = (D + 4) % 7 from rfl)
  have HI := J hlt
  clear q1 q2 q3 hi hlt
  go_wp2_with fail
  refine (refDate D _ d0 d1).mono ?_
  rintro e w4 ⟨rfl, hb4⟩
  have HB4 := J (HB.u.trans (hb4.mono HB.u.size))
  clear hb4
  go_wp2_with fail
  refine (refRest (D + 4) 7 _ (by omega) (by omega)).mono ?_
  rintro e w5 ⟨rfl, rfl⟩
  rw [HRw.u]
  go_upto_region 12 with fail
  have HB5 := J (HB4.u.alloc HB4.u.size (.cells #[.int .i64 (G.yrOf D), .int .i64 (G.moOf D), .int .i64 (G.dyOf D), .int .i64 0, .int .i64 0, .int .i64 0, .int .i64 ((D + 4) % 7)] 192))
  have HT5 := J (G.At.made w4 192 #[.int .i64 (G.yrOf D), .int .i64 (G.moOf D), .int .i64 (G.dyOf D), .int .i64 0, .int .i64 0, .int .i64 0, .int .i64 ((D + 4) % 7)])
  have HG := J HB4.u.size
  generalize w4.alloc (.cells #[.int .i64 (G.yrOf D), .int .i64 (G.moOf D), .int .i64 (G.dyOf D), .int .i64 0, .int .i64 0, .int .i64 0, .int .i64 ((D + 4) % 7)] 192) = W5 at HB5 HT5 ⊢
  generalize w4.heap.size = g at HT5 HG ⊢
  clear e1 e2 HB4 HRw
  rename World => Wr0
  go_wp2_with fail
  go_loopw [20] (fun x wr => ∃ k : Nat, k ≤ 1440 ∧ x = .int .i64 k ∧ Hid (0 < k → Cr.day ⟨ci, ch, cd, cm, cw, ad, aw⟩ (G.moOf D) (G.dyOf D) ((D + 4) % 7) = true) ∧ Hid (∀ q, q < k → Cr.minB ⟨ci, ch, cd, cm, cw, ad, aw⟩ a sec (-1) q = false) ∧ Hid (Below W.heap.size W wr) ∧ Hid (∃ p q : Int, G.At wr g 192 #[.int .i64 (G.yrOf D), .int .i64 (G.moOf D), .int .i64 (G.dyOf D), .int .i64 p, .int .i64 q, .int .i64 0, .int .i64 ((D + 4) % 7)])) (fun x _ => 1440 - (intOf x).toNat)
  case atStart => exact ⟨0, by omega, rfl, J (fun h => by omega), J (fun q hq => by omega), HB5, J ⟨0, 0, HT5.u⟩⟩
  obtain ⟨k, hk, rfl, HDay, HM, HBk, HTk⟩ := hrel
  by_cases hk2 : k < 1440
  ·obtain ⟨p, q, hAt⟩ := HTk.u
   obtain ⟨m, hm⟩ : ∃ m, Hid (G.minOf (-1) k = m) := ⟨_, J rfl⟩
   have k0 : (0 : Int) ≤ (k : Int) := by omega
   have k1 : (k : Int) < 1440 := by omega
   have m0 : 0 ≤ m := by have := hm.u; unfold G.minOf at this; simp at this; omega
   have m1 : m < 1440 := by have := hm.u; unfold G.minOf at this; simp at this; omega
   have em : 1439 - (k : Int) = m := by have := hm.u; unfold G.minOf at this; simp at this; omega
   have HMin := J (show Cr.minB ⟨ci, ch, cd, cm, cw, ad, aw⟩ a sec (-1) k = (hasB ch (m / 60) && hasB ci (m % 60) && decide (a + 60 * m ≤ sec)) by unfold Cr.minB; rw [hm.u]; rfl)
   have HYesI := J (fun (h : Cr.minB ⟨ci, ch, cd, cm, cw, ad, aw⟩ a sec (-1) k = true) => (in_some hk2 h HM.u).trans (congrArg (fun z => some (a + 60 * z)) hm.u))
   have HNoI := J (fun (h : Cr.minB ⟨ci, ch, cd, cm, cw, ad, aw⟩ a sec (-1) k = false) => below_succ HM.u h)
   have HX := J (HX3.u.below HBk.u HX3.u.inside)
   have HT := J hAt
   have y3 := hAt.here (i := 3) rfl; have y4 := hAt.here (i := 4) rfl; have f3 := hAt.soft 3; have f4 := hAt.soft 4
   clear hAt HTk
   go_upto_region 18 with fail
   try rw [em]
   have w1 : IntKind.i64.wrap (m * 60) = m * 60 := IntWalk.i64_in _ (by omega)
   have w2 : IntKind.i64.wrap (a + m * 60) = a + m * 60 := IntWalk.i64_in _ (by omega)
   have HK := J hk2
   have HEm := J em
   clear em hk hk2
   go_upto_region 20 with fail
   have HNe := J (show w.heap.size ≠ g by have := HX3.u.inside; have := HG.u; have := HB.u.size; omega)
   have HT7 := J (show G.At ((wr.setCell ⟨g, 3, none⟩ (.int .i64 (m / 60))).setCell ⟨g, 4, none⟩ (.int .i64 (m % 60))) g 192 #[.int .i64 (G.yrOf D), .int .i64 (G.moOf D), .int .i64 (G.dyOf D), .int .i64 (m / 60), .int .i64 (m % 60), .int .i64 0, .int .i64 ((D + 4) % 7)] from (HT.u.put 3 (.int .i64 (m / 60))).put 4 (.int .i64 (m % 60)))
   have HX7 := J ((HX.u.other (p := ⟨g, 3, none⟩) HNe.u (.int .i64 (m / 60))).other (p := ⟨g, 4, none⟩) HNe.u (.int .i64 (m % 60)))
   have HB7 := J ((HBk.u.setCell (p := ⟨g, 3, none⟩) (show W.heap.size ≤ g by have := HG.u; omega) (.int .i64 (m / 60))).setCell (p := ⟨g, 4, none⟩) (show W.heap.size ≤ g by have := HG.u; omega) (.int .i64 (m % 60)))
   generalize (wr.setCell ⟨g, 3, none⟩ (.int .i64 (m / 60))).setCell ⟨g, 4, none⟩ (.int .i64 (m % 60)) = W7 at HT7 HX7 HB7 ⊢
   clear HT HX HBk y3 y4 f3 f4 HNe w1 w2
   have HFull := J (show Cr.fit ⟨1152921504606846975, 16777215, cd, cm, cw, ad, aw⟩ (G.moOf D) (G.dyOf D) (m / 60) (m % 60) ((D + 4) % 7) = Cr.day ⟨ci, ch, cd, cm, cw, ad, aw⟩ (G.moOf D) (G.dyOf D) ((D + 4) % 7) by
    unfold Cr.fit
    rw [show hasB (Cr.h ⟨1152921504606846975, 16777215, cd, cm, cw, ad, aw⟩) (m / 60) = true from (full_has (m / 60) (by omega)).2 (by omega), show hasB (Cr.mi ⟨1152921504606846975, 16777215, cd, cm, cw, ad, aw⟩) (m % 60) = true from (full_has (m % 60) (by omega)).1 (by omega), Bool.and_true, Bool.and_true]; rfl)
   have HFit := J (show Cr.fit ⟨ci, ch, cd, cm, cw, ad, aw⟩ (G.moOf D) (G.dyOf D) (m / 60) (m % 60) ((D + 4) % 7) = (Cr.day ⟨ci, ch, cd, cm, cw, ad, aw⟩ (G.moOf D) (G.dyOf D) ((D + 4) % 7) && hasB ch (m / 60) && hasB ci (m % 60)) from rfl)
   have HE60 := J (show a + 60 * m = a + m * 60 by omega)
   rw [HE60.u] at HMin HYesI
   by_cases hc : a + m * 60 ≤ sec
   ·have HC2 := J hc
    have x0 := HX7.u.here (i := 0) rfl; have x1 := HX7.u.here (i := 1) rfl; have x2 := HX7.u.here (i := 2) rfl; have x3 := HX7.u.here (i := 3) rfl; have x4 := HX7.u.here (i := 4) rfl; have x5 := HX7.u.here (i := 5) rfl; have x6 := HX7.u.here (i := 6) rfl
    have t0' := HT7.u.here (i := 0) rfl; have t1' := HT7.u.here (i := 1) rfl; have t2' := HT7.u.here (i := 2) rfl; have t3' := HT7.u.here (i := 3) rfl; have t4' := HT7.u.here (i := 4) rfl; have t5' := HT7.u.here (i := 5) rfl; have t6' := HT7.u.here (i := 6) rfl
    go_wp2_with fail
    refine (refMatch ⟨ci, ch, cd, cm, cw, ad, aw⟩ HC.u _ _ _ _ _ _ _ _).mono ?_
    rintro e w8 ⟨rfl, hb8⟩
    have HB8 := J (HB7.u.trans (hb8.mono HB7.u.size))
    have HX8 := J (HX7.u.below hb8 HX7.u.inside)
    have HT8 := J (HT7.u.below hb8 HT7.u.inside)
    clear hb8 x0 x1 x2 x3 x4 x5 x6 t0' t1' t2' t3' t4' t5' t6' HX7 HT7 HB7
    cases hfit : Cr.fit ⟨ci, ch, cd, cm, cw, ad, aw⟩ (G.moOf D) (G.dyOf D) (m / 60) (m % 60) ((D + 4) % 7)
    ·have HNoM := J (fun (hd : Cr.day ⟨ci, ch, cd, cm, cw, ad, aw⟩ (G.moOf D) (G.dyOf D) ((D + 4) % 7) = true) => (show Cr.minB ⟨ci, ch, cd, cm, cw, ad, aw⟩ a sec (-1) k = false by
      rw [HMin.u]
      have h := HFit.u
      rw [hfit, hd, Bool.true_and] at h
      rw [← h]; rfl))
     clear hfit hc
     by_cases kz : k = 0
     ·have hz : ((k : Int) == 0) = true := by have := HEm.u; rw [show (k : Int) = 0 by omega]; rfl
      have HKz := J kz
      clear kz
      have x0 := HX8.u.here (i := 0) rfl; have x1 := HX8.u.here (i := 1) rfl; have x2 := HX8.u.here (i := 2) rfl; have x3 := HX8.u.here (i := 3) rfl; have x4 := HX8.u.here (i := 4) rfl; have x5 := HX8.u.here (i := 5) rfl; have x6 := HX8.u.here (i := 6) rfl
      have t0' := HT8.u.here (i := 0) rfl; have t1' := HT8.u.here (i := 1) rfl; have t2' := HT8.u.here (i := 2) rfl; have t3' := HT8.u.here (i := 3) rfl; have t4' := HT8.u.here (i := 4) rfl; have t5' := HT8.u.here (i := 5) rfl; have t6' := HT8.u.here (i := 6) rfl
      go_wp2_with fail
      refine (refMatch ⟨1152921504606846975, 16777215, cd, cm, cw, ad, aw⟩ HCf.u _ _ _ _ _ _ _ _).mono ?_
      rintro e w9 ⟨rfl, hb9⟩
      rw [HFull.u]
      have HB9 := J (HB8.u.trans (hb9.mono HB8.u.size))
      have HT9 := J (HT8.u.below hb9 HT8.u.inside)
      clear hb9 x0 x1 x2 x3 x4 x5 x6 t0' t1' t2' t3' t4' t5' t6' hz
      cases hday : Cr.day ⟨ci, ch, cd, cm, cw, ad, aw⟩ (G.moOf D) (G.dyOf D) ((D + 4) % 7)
      ·have HF := J (HNo.u (by rw [HHit.u, hday]; rfl))
       clear hday
       go_wp2_with fail
       go_roundw
       case rel => exact ⟨i + 1, by have := HI.u; omega, by go_num, HF, HB9⟩
       case measure => have := HI.u; simp [intOf]; omega
      have HF := J (HNoI.u (HNoM.u hday))
      have HD1 := J hday
      clear hday
      go_wp2_with fail
      go_roundw
      case rel => exact ⟨k + 1, by have := HK.u; omega, by first | go_num | (rw [← HEm.u]; go_num), J (fun _ => HD1.u), HF, HB9, J ⟨_, _, HT9.u⟩⟩
      case measure => have := HK.u; have := HEm.u; simp [intOf]; omega
     have hz : ((k : Int) == 0) = false := by have := HEm.u; rw [beq_eq_false_iff_ne]; omega
     have HD1 := J (HDay.u (by omega))
     have HF := J (HNoI.u (HNoM.u HD1.u))
     clear kz
     go_wp2_with fail
     go_roundw
     case rel => exact ⟨k + 1, by have := HK.u; omega, by first | go_num | (rw [← HEm.u]; go_num), J (fun _ => HD1.u), HF, HB8, J ⟨_, _, HT8.u⟩⟩
     case measure => have := HK.u; have := HEm.u; simp [intOf]; omega
    have hp : Cr.day ⟨ci, ch, cd, cm, cw, ad, aw⟩ (G.moOf D) (G.dyOf D) ((D + 4) % 7) = true ∧ hasB ch (m / 60) = true ∧ hasB ci (m % 60) = true := by
     have h := HFit.u
     rw [hfit] at h
     have h2 := h.symm
     simp only [Bool.and_eq_true] at h2
     exact ⟨h2.1.1, h2.1.2, h2.2⟩
    have hin := HYesI.u (by rw [HMin.u, hp.2.1, hp.2.2, decide_eq_true hc]; rfl)
    have HF := J (show R = inTime (some (a + m * 60)) by rw [HYes.u (by rw [HHit.u, hp.1, hin]; rfl), hin])
    clear hfit hc hp hin HNoI
    have x1e : a + m * 60 ≤ 200000000000 := by omega
    have HBe := J (HB3.u.trans (HB8.u.mono HB3.u.size))
    by_cases hr : -100000000000 ≤ a + m * 60 ∧ a + m * 60 ≤ 100000000000
    ·have HF2 := J (show R = some (a + m * 60) by rw [HF.u]; unfold inTime; simp only; rw [if_neg (by omega)])
     have HR := J hr
     clear hr
     go_wp2_with fail
     refine (refIn_yes (a + m * 60) (-100000000000) 100000000000 _ HR.u.1 HR.u.2).mono ?_
     rintro e w9 ⟨rfl, rfl⟩
     go_wp2_with fail
     go_ret2
     exact ⟨by rw [HF2.u] <;> rfl, HBe.u⟩
    have HF2 := J (show R = none by rw [HF.u]; unfold inTime; simp only; rw [if_pos (by omega)])
    have HR := J (show a + m * 60 < -100000000000 ∨ 100000000000 < a + m * 60 by omega)
    clear hr
    go_wp2_with fail
    refine (refIn_no (a + m * 60) (-100000000000) 100000000000 _ HR.u).mono ?_
    rintro e w9 ⟨rfl, rfl⟩
    go_wp2_with fail
    go_ret2
    exact ⟨by rw [HF2.u] <;> rfl, HBe.u⟩
   have hcn : sec < a + m * 60 := by omega
   have HNoM := J (fun (_ : Cr.day ⟨ci, ch, cd, cm, cw, ad, aw⟩ (G.moOf D) (G.dyOf D) ((D + 4) % 7) = true) => (show Cr.minB ⟨ci, ch, cd, cm, cw, ad, aw⟩ a sec (-1) k = false by rw [HMin.u, decide_eq_false hc, Bool.and_false]))
   clear hc
   by_cases kz : k = 0
   ·have hz : ((k : Int) == 0) = true := by have := HEm.u; rw [show (k : Int) = 0 by omega]; rfl
    have HKz := J kz
    clear kz
    have x0 := HX7.u.here (i := 0) rfl; have x1 := HX7.u.here (i := 1) rfl; have x2 := HX7.u.here (i := 2) rfl; have x3 := HX7.u.here (i := 3) rfl; have x4 := HX7.u.here (i := 4) rfl; have x5 := HX7.u.here (i := 5) rfl; have x6 := HX7.u.here (i := 6) rfl
    have t0' := HT7.u.here (i := 0) rfl; have t1' := HT7.u.here (i := 1) rfl; have t2' := HT7.u.here (i := 2) rfl; have t3' := HT7.u.here (i := 3) rfl; have t4' := HT7.u.here (i := 4) rfl; have t5' := HT7.u.here (i := 5) rfl; have t6' := HT7.u.here (i := 6) rfl
    go_wp2_with fail
    refine (refMatch ⟨1152921504606846975, 16777215, cd, cm, cw, ad, aw⟩ HCf.u _ _ _ _ _ _ _ _).mono ?_
    rintro e w9 ⟨rfl, hb9⟩
    rw [HFull.u]
    have HB9 := J (HB7.u.trans (hb9.mono HB7.u.size))
    have HT9 := J (HT7.u.below hb9 HT7.u.inside)
    clear hb9 x0 x1 x2 x3 x4 x5 x6 t0' t1' t2' t3' t4' t5' t6' hz
    cases hday : Cr.day ⟨ci, ch, cd, cm, cw, ad, aw⟩ (G.moOf D) (G.dyOf D) ((D + 4) % 7)
    ·have HF := J (HNo.u (by rw [HHit.u, hday]; rfl))
     clear hday
     go_wp2_with fail
     go_roundw
     case rel => exact ⟨i + 1, by have := HI.u; omega, by go_num, HF, HB9⟩
     case measure => have := HI.u; simp [intOf]; omega
    have HF := J (HNoI.u (HNoM.u hday))
    have HD1 := J hday
    clear hday
    go_wp2_with fail
    go_roundw
    case rel => exact ⟨k + 1, by have := HK.u; omega, by first | go_num | (rw [← HEm.u]; go_num), J (fun _ => HD1.u), HF, HB9, J ⟨_, _, HT9.u⟩⟩
    case measure => have := HK.u; have := HEm.u; simp [intOf]; omega
   have hz : ((k : Int) == 0) = false := by have := HEm.u; rw [beq_eq_false_iff_ne]; omega
   have HD1 := J (HDay.u (by omega))
   have HF := J (HNoI.u (HNoM.u HD1.u))
   clear kz
   go_wp2_with fail
   go_roundw
   case rel => exact ⟨k + 1, by have := HK.u; omega, by first | go_num | (rw [← HEm.u]; go_num), J (fun _ => HD1.u), HF, HB7, J ⟨_, _, HT7.u⟩⟩
   case measure => have := HK.u; have := HEm.u; simp [intOf]; omega
  have hk3 : k = 1440 := by omega
  subst hk3
  have HF := J (HNo.u (by rw [HHit.u, in_none HM.u]; simp))
  clear hk hk2
  go_wp2_with fail
  go_roundw
  case rel => exact ⟨i + 1, by have := HI.u; omega, by go_num, HF, HBk⟩
  case measure => have := HI.u; simp [intOf]; omega
 have hie : i = 3001 := by omega
 subst hie
 have HF := J (show R = none by rw [← hR.u]; unfold Cr.seekR; rw [G.under_all HN.u])
 have HBe := J (HB3.u.trans (HB.u.mono HB3.u.size))
 clear hi hlt
 go_wp2_with fail
 go_ret2
 exact ⟨by rw [HF.u] <;> rfl, HBe.u⟩
end Go.Proofs.YtidonhndeohdlaaGreat
