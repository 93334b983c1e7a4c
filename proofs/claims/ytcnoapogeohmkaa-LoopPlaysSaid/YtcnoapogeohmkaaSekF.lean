/- The contract of the reference's Seek. -/
import Derived.Test.YtcnoapogeohmkaaSekE
set_option linter.unusedVariables false
set_option linter.unusedSimpArgs false
namespace Go.Proofs.Ytcnoapogeohmkaa
open Go.RowKit
set_option linter.unusedVariables false
/-- does the day that begins at a time fit? -/
def Cr.dayFitR (c : Cr) (shift at0 : Int) : Bool := c.day (Tide.moOf ((at0 + 60 * shift) / 86400)) (Tide.dyOf ((at0 + 60 * shift) / 86400)) (((at0 + 60 * shift) / 86400 + 4) % 7)
def Cr.hitR (c : Cr) (sec shift side : Int) (i : Nat) : Bool := c.dayFitR shift (dayAt sec shift side i) && (c.inDay (dayAt sec shift side i) sec side).isSome
def Cr.seekR (c : Cr) (sec shift side : Int) : Option Int := match Tide.firstUnder (c.hitR sec shift side) 3001 with | none => none | some i => inTime (c.inDay (dayAt sec shift side i) sec side)
theorem day_no {st shift : Int} {sec : Int} (h : st = sec - (sec + 60 * shift) % 86400) (side : Int) (i : Nat) (a : Int) (ha : a = st + side * i * 86400) : a + shift * 60 = 86400 * ((sec + 60 * shift) / 86400 + side * i) := by
  generalize side * (i : Int) = q at ha ⊢
  omega
theorem exact_day {x D : Int} (h : x = 86400 * D) : x.tdiv 86400 = D ∧ x.tmod 86400 = 0 := by
  subst h
  exact ⟨Int.mul_tdiv_cancel_left _ (by decide), Int.mul_tmod_right _ _⟩
theorem in_none {c : Cr} {a sec side : Int} (h : ∀ q, q < 1440 → c.minB a sec side q = false) : c.inDay a sec side = none := by
  unfold Cr.inDay; rw [Tide.under_all h]; rfl
theorem in_some {c : Cr} {a sec side : Int} {k : Nat} (hk : k < 1440) (hb : c.minB a sec side k = true) (h : ∀ q, q < k → c.minB a sec side q = false) : c.inDay a sec side = some (a + 60 * Tide.minOf side k) := by
  unfold Cr.inDay; rw [Tide.under_is hk hb h]; rfl
theorem below_succ {p : Nat → Bool} {k : Nat} (h : ∀ q, q < k → p q = false) (hk : p k = false) : ∀ q, q < k + 1 → p q = false := fun q hq => by
  rcases Nat.lt_succ_iff_lt_or_eq.1 hq with c | c
  · exact h q c
  · rw [c]; exact hk
theorem full_has (n : Int) (h0 : 0 ≤ n) : (n ≤ 59 → hasB 1152921504606846975 n = true) ∧ (n ≤ 23 → hasB 16777215 n = true) := by
  obtain ⟨k, rfl⟩ := Int.eq_ofNat_of_zero_le h0
  have e1 : (1152921504606846975 : Nat) = 2 ^ 60 - 1 := by decide
  have e2 : (16777215 : Nat) = 2 ^ 24 - 1 := by decide
  constructor
  · intro h
    rw [hasB_nat _ _ (by omega), e1, Nat.testBit_two_pow_sub_one]; simp; omega
  · intro h
    rw [hasB_nat _ _ (by omega), e2, Nat.testBit_two_pow_sub_one]; simp; omega

set_option maxRecDepth 100000 in
set_option maxHeartbeats 12800000 in
theorem refSeekUp (c : Cr) (hf : c.fits) (sec shift : Int) (w : World) (hot : okTime sec shift) :
    Calls Try.prog 71 #[.agg c.cells, .int .i64 sec, .int .i64 shift, .int .i64 1] w fun e w' => e = .returned (foundV (c.seekR sec shift 1)) ∧ Below w.heap.size w w' := by
  obtain ⟨ci, ch, cd, cm, cw, ad, aw⟩ := c
  have HC := Lib.hid hf
  have HB0 := Lib.hid ((Below.refl w.heap.size w).alloc (Nat.le_refl _) (.cells #[.int .u64 (ci : Int), .int .u64 (ch : Int), .int .u64 (cd : Int), .int .u64 (cm : Int), .int .u64 (cw : Int), .bool ad, .bool aw] 61))
  have HX0 := Lib.hid (Tide.At.made w 61 #[.int .u64 (ci : Int), .int .u64 (ch : Int), .int .u64 (cd : Int), .int .u64 (cm : Int), .int .u64 (cw : Int), .bool ad, .bool aw])
  have HOt := Lib.hid hot
  have HCf := Lib.hid (show Cr.fits ⟨1152921504606846975, 16777215, cd, cm, cw, ad, aw⟩ from ⟨(by decide : 1152921504606846975 < 18446744073709551616), (by decide : 16777215 < 18446744073709551616), hf.2.2.1, hf.2.2.2.1, hf.2.2.2.2⟩)
  obtain ⟨R, hR⟩ : ∃ R, Hid (Cr.seekR ⟨ci, ch, cd, cm, cw, ad, aw⟩ sec shift 1 = R) := ⟨_, Lib.hid rfl⟩
  rw [hR.out]
  obtain ⟨t0, t1, t2, t3⟩ := hot
  clear hf
  unfold Cr.cells
  go_enter Try.func71, Try.ntmps71
  go_wp2_with fail
  refine (refOf_yes sec shift _ HOt.out).mono ?_
  rintro e w2 ⟨rfl, hb2⟩
  have HB2 := Lib.hid (HB0.out.trans (hb2.mono HB0.out.size))
  have HX2 := Lib.hid (HX0.out.below hb2 HX0.out.inside)
  clear hb2 HB0 HX0
  unfold civAgg
  obtain ⟨h0, h1, m0, m1, s0, s1, hsum⟩ := rest_parts (sec + 60 * shift)
  obtain ⟨st, hSt⟩ : ∃ st, Hid (dayStart sec shift = st) := ⟨_, Lib.hid rfl⟩
  have hst : dayStart sec shift = sec - (sec + 60 * shift) % 86400 := rfl
  have HStE := Lib.hid (show st = sec - (sec + 60 * shift) % 86400 by rw [← hSt.out]; rfl)
  generalize (sec + 60 * shift) % 86400 / 3600 = hh at h0 h1 hsum ⊢
  generalize (sec + 60 * shift) % 86400 / 60 % 60 = hm at m0 m1 hsum ⊢
  generalize (sec + 60 * shift) % 86400 % 60 = hs at s0 s1 hsum ⊢
  have q1 : IntKind.i64.wrap (hh * 60) = hh * 60 := IntWalk.i64_in _ (by omega)
  have q2 : IntKind.i64.wrap (hh * 60 + hm) = hh * 60 + hm := IntWalk.i64_in _ (by omega)
  have q3 : IntKind.i64.wrap ((hh * 60 + hm) * 60) = (hh * 60 + hm) * 60 := IntWalk.i64_in _ (by omega)
  have q4 : IntKind.i64.wrap (sec - (hh * 60 + hm) * 60) = sec - (hh * 60 + hm) * 60 := IntWalk.i64_in _ (by omega)
  have q5 : IntKind.i64.wrap (sec - (hh * 60 + hm) * 60 - hs) = sec - (hh * 60 + hm) * 60 - hs := IntWalk.i64_in _ (by omega)
  have q6 : sec - (hh * 60 + hm) * 60 - hs = st := by rw [← hSt.out, hst, ← hsum]; omega
  have st0 : -100000100000 ≤ st := by have := HStE.out; omega
  have st1 : st ≤ 100000000000 := by have := HStE.out; omega
  go_upto_region 3 with fail
  try rw [q6]
  clear q1 q2 q3 q4 q5 q6 h0 h1 m0 m1 s0 s1 hsum hst
  have HB3 := Lib.hid (HB2.out.alloc HB2.out.size (.cells #[.int .i64 (Tide.yrOf ((sec + 60 * shift) / 86400)), .int .i64 (Tide.moOf ((sec + 60 * shift) / 86400)), .int .i64 (Tide.dyOf ((sec + 60 * shift) / 86400)), .int .i64 hh, .int .i64 hm, .int .i64 hs, .int .i64 (((sec + 60 * shift) / 86400 + 4) % 7)] 105))
  have HX3 := Lib.hid (HX2.out.alloc (.cells #[.int .i64 (Tide.yrOf ((sec + 60 * shift) / 86400)), .int .i64 (Tide.moOf ((sec + 60 * shift) / 86400)), .int .i64 (Tide.dyOf ((sec + 60 * shift) / 86400)), .int .i64 hh, .int .i64 hm, .int .i64 hs, .int .i64 (((sec + 60 * shift) / 86400 + 4) % 7)] 105))
  clear HB2 HX2
  go_wp2_with fail
  generalize w2.alloc (.cells #[.int .i64 (Tide.yrOf ((sec + 60 * shift) / 86400)), .int .i64 (Tide.moOf ((sec + 60 * shift) / 86400)), .int .i64 (Tide.dyOf ((sec + 60 * shift) / 86400)), .int .i64 hh, .int .i64 hm, .int .i64 hs, .int .i64 (((sec + 60 * shift) / 86400 + 4) % 7)] 105) = W at HB3 HX3 ⊢
  go_loopw [13] (fun x wr => ∃ i : Nat, i ≤ 3001 ∧ x = .int .i64 i ∧ Hid (∀ q, q < i → Cr.hitR ⟨ci, ch, cd, cm, cw, ad, aw⟩ sec shift 1 q = false) ∧ Hid (Below W.heap.size W wr)) (fun x _ => 3001 - (intOf x).toNat)
  case atStart => exact ⟨0, by omega, rfl, Lib.hid (fun q hq => by omega), Lib.hid (Below.refl _ _)⟩
  case round =>
    obtain ⟨i, hi, rfl, HN, HB⟩ := hrel
    by_cases hlt : i < 3001
    · have i0 : (0 : Int) ≤ (i : Int) := by omega
      have i1 : (i : Int) ≤ 3000 := by omega
      have q1 : IntKind.i64.wrap (1 * (i : Int)) = 1 * (i : Int) := IntWalk.i64_in _ (by omega)
      have q2 : IntKind.i64.wrap (1 * (i : Int) * 86400) = 1 * (i : Int) * 86400 := IntWalk.i64_in _ (by omega)
      have q3 : IntKind.i64.wrap (st + 1 * (i : Int) * 86400) = st + 1 * (i : Int) * 86400 := IntWalk.i64_in _ (by omega)
      go_upto_region 7 with fail
      obtain ⟨a, ha⟩ : ∃ a, Hid (st + (i : Int) * 86400 = a) := ⟨_, Lib.hid rfl⟩
      rw [ha.out]
      have HDa := Lib.hid (show dayAt sec shift 1 i = a by unfold dayAt; rw [hSt.out, ← ha.out]; omega)
      obtain ⟨D, hD⟩ : ∃ D, Hid ((sec + 60 * shift) / 86400 + 1 * (i : Int) = D) := ⟨_, Lib.hid rfl⟩
      have HaD := Lib.hid (show a + shift * 60 = 86400 * D from hD.out ▸ day_no HStE.out 1 i a (by rw [← ha.out]; omega))
      have a0 : -100300000000 ≤ a := by have := ha.out; omega
      have a1 : a ≤ 100300000000 := by have := ha.out; omega
      have d0 : -4000000 ≤ D := by have := HaD.out; omega
      have d1 : D ≤ 4000000 := by have := HaD.out; omega
      have HDv := Lib.hid (show (a + 60 * shift) / 86400 = D by have := HaD.out; omega)
      have HHit := Lib.hid (show Cr.hitR ⟨ci, ch, cd, cm, cw, ad, aw⟩ sec shift 1 i = (Cr.day ⟨ci, ch, cd, cm, cw, ad, aw⟩ (Tide.moOf D) (Tide.dyOf D) ((D + 4) % 7) && (Cr.inDay ⟨ci, ch, cd, cm, cw, ad, aw⟩ a sec 1).isSome) by unfold Cr.hitR Cr.dayFitR; rw [HDa.out, HDv.out])
      have HNo := Lib.hid (fun (h : Cr.hitR ⟨ci, ch, cd, cm, cw, ad, aw⟩ sec shift 1 i = false) => below_succ HN.out h)
      have HYes := Lib.hid (fun (h : Cr.hitR ⟨ci, ch, cd, cm, cw, ad, aw⟩ sec shift 1 i = true) => (show R = inTime (Cr.inDay ⟨ci, ch, cd, cm, cw, ad, aw⟩ a sec 1) by rw [← hR.out]; unfold Cr.seekR; rw [Tide.under_is hlt h HN.out]; simp only [HDa.out]))
      have e1 : (a + shift * 60).tdiv 86400 = D := (exact_day HaD.out).1
      have e2 : (a + shift * 60).tmod 86400 = 0 := (exact_day HaD.out).2
      have HRw := Lib.hid (show rest (D + 4) 7 = (D + 4) % 7 from rfl)
      have HI := Lib.hid hlt
      clear q1 q2 q3 hi hlt
      go_wp2_with fail
      refine (refDate D _ d0 d1).mono ?_
      rintro e w4 ⟨rfl, hb4⟩
      have HB4 := Lib.hid (HB.out.trans (hb4.mono HB.out.size))
      clear hb4
      go_wp2_with fail
      refine (refRest (D + 4) 7 _ (by omega) (by omega)).mono ?_
      rintro e w5 ⟨rfl, rfl⟩
      rw [HRw.out]
      go_upto_region 12 with fail
      have HB5 := Lib.hid (HB4.out.alloc HB4.out.size (.cells #[.int .i64 (Tide.yrOf D), .int .i64 (Tide.moOf D), .int .i64 (Tide.dyOf D), .int .i64 0, .int .i64 0, .int .i64 0, .int .i64 ((D + 4) % 7)] 105))
      have HT5 := Lib.hid (Tide.At.made w4 105 #[.int .i64 (Tide.yrOf D), .int .i64 (Tide.moOf D), .int .i64 (Tide.dyOf D), .int .i64 0, .int .i64 0, .int .i64 0, .int .i64 ((D + 4) % 7)])
      have HG := Lib.hid HB4.out.size
      generalize w4.alloc (.cells #[.int .i64 (Tide.yrOf D), .int .i64 (Tide.moOf D), .int .i64 (Tide.dyOf D), .int .i64 0, .int .i64 0, .int .i64 0, .int .i64 ((D + 4) % 7)] 105) = W5 at HB5 HT5 ⊢
      generalize w4.heap.size = g at HT5 HG ⊢
      clear e1 e2 HB4 HRw
      rename World => Wr0
      go_wp2_with fail
      go_loopw [20] (fun x wr => ∃ k : Nat, k ≤ 1440 ∧ x = .int .i64 k ∧ Hid (0 < k → Cr.day ⟨ci, ch, cd, cm, cw, ad, aw⟩ (Tide.moOf D) (Tide.dyOf D) ((D + 4) % 7) = true) ∧ Hid (∀ q, q < k → Cr.minB ⟨ci, ch, cd, cm, cw, ad, aw⟩ a sec 1 q = false) ∧ Hid (Below W.heap.size W wr) ∧ Hid (∃ p q : Int, Tide.At wr g 105 #[.int .i64 (Tide.yrOf D), .int .i64 (Tide.moOf D), .int .i64 (Tide.dyOf D), .int .i64 p, .int .i64 q, .int .i64 0, .int .i64 ((D + 4) % 7)])) (fun x _ => 1440 - (intOf x).toNat)
      case atStart => exact ⟨0, by omega, rfl, Lib.hid (fun h => by omega), Lib.hid (fun q hq => by omega), HB5, Lib.hid ⟨0, 0, HT5.out⟩⟩
      case round =>
        obtain ⟨k, hk, rfl, HDay, HM, HBk, HTk⟩ := hrel
        by_cases hk2 : k < 1440
        · obtain ⟨p, q, hAt⟩ := HTk.out
          obtain ⟨m, hm⟩ : ∃ m, Hid (Tide.minOf 1 k = m) := ⟨_, Lib.hid rfl⟩
          have k0 : (0 : Int) ≤ (k : Int) := by omega
          have k1 : (k : Int) < 1440 := by omega
          have m0 : 0 ≤ m := by have := hm.out; unfold Tide.minOf at this; simp at this; omega
          have m1 : m < 1440 := by have := hm.out; unfold Tide.minOf at this; simp at this; omega
          have em : (k : Int) = m := by have := hm.out; unfold Tide.minOf at this; simp at this; omega
          have HMin := Lib.hid (show Cr.minB ⟨ci, ch, cd, cm, cw, ad, aw⟩ a sec 1 k = (hasB ch (m / 60) && hasB ci (m % 60) && decide (sec < a + 60 * m)) by unfold Cr.minB; rw [hm.out]; rfl)
          have HYesI := Lib.hid (fun (h : Cr.minB ⟨ci, ch, cd, cm, cw, ad, aw⟩ a sec 1 k = true) => (in_some hk2 h HM.out).trans (congrArg (fun z => some (a + 60 * z)) hm.out))
          have HNoI := Lib.hid (fun (h : Cr.minB ⟨ci, ch, cd, cm, cw, ad, aw⟩ a sec 1 k = false) => below_succ HM.out h)
          have HX := Lib.hid (HX3.out.below HBk.out HX3.out.inside)
          have HT := Lib.hid hAt
          have y3 := hAt.here (i := 3) rfl; have y4 := hAt.here (i := 4) rfl; have f3 := hAt.soft 3; have f4 := hAt.soft 4
          clear hAt HTk
          go_upto_region 18 with fail
          try rw [em]
          have w1 : IntKind.i64.wrap (m * 60) = m * 60 := IntWalk.i64_in _ (by omega)
          have w2 : IntKind.i64.wrap (a + m * 60) = a + m * 60 := IntWalk.i64_in _ (by omega)
          have HK := Lib.hid hk2
          have HEm := Lib.hid em
          clear em hk hk2
          go_upto_region 20 with fail
          have HNe := Lib.hid (show w.heap.size ≠ g by have := HX3.out.inside; have := HG.out; have := HB.out.size; omega)
          have HT7 := Lib.hid (show Tide.At ((wr.setCell ⟨g, 3, none⟩ (.int .i64 (m / 60))).setCell ⟨g, 4, none⟩ (.int .i64 (m % 60))) g 105 #[.int .i64 (Tide.yrOf D), .int .i64 (Tide.moOf D), .int .i64 (Tide.dyOf D), .int .i64 (m / 60), .int .i64 (m % 60), .int .i64 0, .int .i64 ((D + 4) % 7)] from (HT.out.put 3 (.int .i64 (m / 60))).put 4 (.int .i64 (m % 60)))
          have HX7 := Lib.hid ((HX.out.other (p := ⟨g, 3, none⟩) HNe.out (.int .i64 (m / 60))).other (p := ⟨g, 4, none⟩) HNe.out (.int .i64 (m % 60)))
          have HB7 := Lib.hid ((HBk.out.setCell (p := ⟨g, 3, none⟩) (show W.heap.size ≤ g by have := HG.out; omega) (.int .i64 (m / 60))).setCell (p := ⟨g, 4, none⟩) (show W.heap.size ≤ g by have := HG.out; omega) (.int .i64 (m % 60)))
          generalize (wr.setCell ⟨g, 3, none⟩ (.int .i64 (m / 60))).setCell ⟨g, 4, none⟩ (.int .i64 (m % 60)) = W7 at HT7 HX7 HB7 ⊢
          clear HT HX HBk y3 y4 f3 f4 HNe w1 w2
          have HFull := Lib.hid (show Cr.fit ⟨1152921504606846975, 16777215, cd, cm, cw, ad, aw⟩ (Tide.moOf D) (Tide.dyOf D) (m / 60) (m % 60) ((D + 4) % 7) = Cr.day ⟨ci, ch, cd, cm, cw, ad, aw⟩ (Tide.moOf D) (Tide.dyOf D) ((D + 4) % 7) by
            unfold Cr.fit
            rw [show hasB (Cr.h ⟨1152921504606846975, 16777215, cd, cm, cw, ad, aw⟩) (m / 60) = true from (full_has (m / 60) (by omega)).2 (by omega), show hasB (Cr.mi ⟨1152921504606846975, 16777215, cd, cm, cw, ad, aw⟩) (m % 60) = true from (full_has (m % 60) (by omega)).1 (by omega), Bool.and_true, Bool.and_true]; rfl)
          have HFit := Lib.hid (show Cr.fit ⟨ci, ch, cd, cm, cw, ad, aw⟩ (Tide.moOf D) (Tide.dyOf D) (m / 60) (m % 60) ((D + 4) % 7) = (Cr.day ⟨ci, ch, cd, cm, cw, ad, aw⟩ (Tide.moOf D) (Tide.dyOf D) ((D + 4) % 7) && hasB ch (m / 60) && hasB ci (m % 60)) from rfl)
          have HE60 := Lib.hid (show a + 60 * m = a + m * 60 by omega)
          rw [HE60.out] at HMin HYesI
          by_cases hc : sec < a + m * 60
          · have HC2 := Lib.hid hc
            have x0 : W7.cell? ⟨w.heap.size, 0, none⟩ = some (.int .u64 (ci : Int)) := HX7.out.here (i := 0) rfl; have x1 : W7.cell? ⟨w.heap.size, 1, none⟩ = some (.int .u64 (ch : Int)) := HX7.out.here (i := 1) rfl; have x2 : W7.cell? ⟨w.heap.size, 2, none⟩ = some (.int .u64 (cd : Int)) := HX7.out.here (i := 2) rfl; have x3 : W7.cell? ⟨w.heap.size, 3, none⟩ = some (.int .u64 (cm : Int)) := HX7.out.here (i := 3) rfl; have x4 : W7.cell? ⟨w.heap.size, 4, none⟩ = some (.int .u64 (cw : Int)) := HX7.out.here (i := 4) rfl; have x5 : W7.cell? ⟨w.heap.size, 5, none⟩ = some (.bool ad) := HX7.out.here (i := 5) rfl; have x6 : W7.cell? ⟨w.heap.size, 6, none⟩ = some (.bool aw) := HX7.out.here (i := 6) rfl
            have t0' : W7.cell? ⟨g, 0, none⟩ = some (.int .i64 (Tide.yrOf D)) := HT7.out.here (i := 0) rfl; have t1' : W7.cell? ⟨g, 1, none⟩ = some (.int .i64 (Tide.moOf D)) := HT7.out.here (i := 1) rfl; have t2' : W7.cell? ⟨g, 2, none⟩ = some (.int .i64 (Tide.dyOf D)) := HT7.out.here (i := 2) rfl; have t3' : W7.cell? ⟨g, 3, none⟩ = some (.int .i64 (m / 60)) := HT7.out.here (i := 3) rfl; have t4' : W7.cell? ⟨g, 4, none⟩ = some (.int .i64 (m % 60)) := HT7.out.here (i := 4) rfl; have t5' : W7.cell? ⟨g, 5, none⟩ = some (.int .i64 0) := HT7.out.here (i := 5) rfl; have t6' : W7.cell? ⟨g, 6, none⟩ = some (.int .i64 ((D + 4) % 7)) := HT7.out.here (i := 6) rfl
            go_wp2_with fail
            refine (refMatch ⟨ci, ch, cd, cm, cw, ad, aw⟩ HC.out _ _ _ _ _ _ _ _).mono ?_
            rintro e w8 ⟨rfl, hb8⟩
            have HB8 := Lib.hid (HB7.out.trans (hb8.mono HB7.out.size))
            have HX8 := Lib.hid (HX7.out.below hb8 HX7.out.inside)
            have HT8 := Lib.hid (HT7.out.below hb8 HT7.out.inside)
            clear hb8 x0 x1 x2 x3 x4 x5 x6 t0' t1' t2' t3' t4' t5' t6' HX7 HT7 HB7
            cases hfit : Cr.fit ⟨ci, ch, cd, cm, cw, ad, aw⟩ (Tide.moOf D) (Tide.dyOf D) (m / 60) (m % 60) ((D + 4) % 7)
            · have HNoM := Lib.hid (fun (hd : Cr.day ⟨ci, ch, cd, cm, cw, ad, aw⟩ (Tide.moOf D) (Tide.dyOf D) ((D + 4) % 7) = true) => (show Cr.minB ⟨ci, ch, cd, cm, cw, ad, aw⟩ a sec 1 k = false by
                rw [HMin.out]
                have h := HFit.out
                rw [hfit, hd, Bool.true_and] at h
                rw [← h]; rfl))
              clear hfit hc
              by_cases kz : k = 0
              · have hz : (m == 0) = true := by have := HEm.out; rw [show m = 0 by omega]; rfl
                have HKz := Lib.hid kz
                clear kz
                have x0 : w8.cell? ⟨w.heap.size, 0, none⟩ = some (.int .u64 (ci : Int)) := HX8.out.here (i := 0) rfl; have x1 : w8.cell? ⟨w.heap.size, 1, none⟩ = some (.int .u64 (ch : Int)) := HX8.out.here (i := 1) rfl; have x2 : w8.cell? ⟨w.heap.size, 2, none⟩ = some (.int .u64 (cd : Int)) := HX8.out.here (i := 2) rfl; have x3 : w8.cell? ⟨w.heap.size, 3, none⟩ = some (.int .u64 (cm : Int)) := HX8.out.here (i := 3) rfl; have x4 : w8.cell? ⟨w.heap.size, 4, none⟩ = some (.int .u64 (cw : Int)) := HX8.out.here (i := 4) rfl; have x5 : w8.cell? ⟨w.heap.size, 5, none⟩ = some (.bool ad) := HX8.out.here (i := 5) rfl; have x6 : w8.cell? ⟨w.heap.size, 6, none⟩ = some (.bool aw) := HX8.out.here (i := 6) rfl
                have t0' : w8.cell? ⟨g, 0, none⟩ = some (.int .i64 (Tide.yrOf D)) := HT8.out.here (i := 0) rfl; have t1' : w8.cell? ⟨g, 1, none⟩ = some (.int .i64 (Tide.moOf D)) := HT8.out.here (i := 1) rfl; have t2' : w8.cell? ⟨g, 2, none⟩ = some (.int .i64 (Tide.dyOf D)) := HT8.out.here (i := 2) rfl; have t3' : w8.cell? ⟨g, 3, none⟩ = some (.int .i64 (m / 60)) := HT8.out.here (i := 3) rfl; have t4' : w8.cell? ⟨g, 4, none⟩ = some (.int .i64 (m % 60)) := HT8.out.here (i := 4) rfl; have t5' : w8.cell? ⟨g, 5, none⟩ = some (.int .i64 0) := HT8.out.here (i := 5) rfl; have t6' : w8.cell? ⟨g, 6, none⟩ = some (.int .i64 ((D + 4) % 7)) := HT8.out.here (i := 6) rfl
                go_wp2_with fail
                refine (refMatch ⟨1152921504606846975, 16777215, cd, cm, cw, ad, aw⟩ HCf.out _ _ _ _ _ _ _ _).mono ?_
                rintro e w9 ⟨rfl, hb9⟩
                rw [HFull.out]
                have HB9 := Lib.hid (HB8.out.trans (hb9.mono HB8.out.size))
                have HT9 := Lib.hid (HT8.out.below hb9 HT8.out.inside)
                clear hb9 x0 x1 x2 x3 x4 x5 x6 t0' t1' t2' t3' t4' t5' t6' hz
                cases hday : Cr.day ⟨ci, ch, cd, cm, cw, ad, aw⟩ (Tide.moOf D) (Tide.dyOf D) ((D + 4) % 7)
                · have HF := Lib.hid (HNo.out (by rw [HHit.out, hday]; rfl))
                  clear hday
                  go_wp2_with fail
                  go_roundw
                  case rel => exact ⟨i + 1, by have := HI.out; omega, by go_num, HF, HB9⟩
                  case measure => have := HI.out; simp [intOf]; omega
                · have HF := Lib.hid (HNoI.out (HNoM.out hday))
                  have HD1 := Lib.hid hday
                  clear hday
                  go_wp2_with fail
                  go_roundw
                  case rel => exact ⟨k + 1, by have := HK.out; omega, by first | go_num | (rw [← HEm.out]; go_num), Lib.hid (fun _ => HD1.out), HF, HB9, Lib.hid ⟨_, _, HT9.out⟩⟩
                  case measure => have := HK.out; have := HEm.out; simp [intOf]; omega
              · have hz : (m == 0) = false := by have := HEm.out; rw [beq_eq_false_iff_ne]; omega
                have HD1 := Lib.hid (HDay.out (by omega))
                have HF := Lib.hid (HNoI.out (HNoM.out HD1.out))
                clear kz
                go_wp2_with fail
                go_roundw
                case rel => exact ⟨k + 1, by have := HK.out; omega, by first | go_num | (rw [← HEm.out]; go_num), Lib.hid (fun _ => HD1.out), HF, HB8, Lib.hid ⟨_, _, HT8.out⟩⟩
                case measure => have := HK.out; have := HEm.out; simp [intOf]; omega
            · have hp : Cr.day ⟨ci, ch, cd, cm, cw, ad, aw⟩ (Tide.moOf D) (Tide.dyOf D) ((D + 4) % 7) = true ∧ hasB ch (m / 60) = true ∧ hasB ci (m % 60) = true := by
                have h := HFit.out
                rw [hfit] at h
                have h2 := h.symm
                simp only [Bool.and_eq_true] at h2
                exact ⟨h2.1.1, h2.1.2, h2.2⟩
              have hin := HYesI.out (by rw [HMin.out, hp.2.1, hp.2.2, decide_eq_true hc]; rfl)
              have HF := Lib.hid (show R = inTime (some (a + m * 60)) by rw [HYes.out (by rw [HHit.out, hp.1, hin]; rfl), hin])
              clear hfit hc hp hin HNoI
              have x1e : a + m * 60 ≤ 200000000000 := by omega
              have HBe := Lib.hid (HB3.out.trans (HB8.out.mono HB3.out.size))
              by_cases hr : -100000000000 ≤ a + m * 60 ∧ a + m * 60 ≤ 100000000000
              · have HF2 := Lib.hid (show R = some (a + m * 60) by rw [HF.out]; unfold inTime; simp only; rw [if_neg (by omega)])
                have HR := Lib.hid hr
                clear hr
                go_wp2_with fail
                refine (refIn_yes (a + m * 60) (-100000000000) 100000000000 _ HR.out.1 HR.out.2).mono ?_
                rintro e w9 ⟨rfl, rfl⟩
                go_wp2_with fail
                go_ret2
                exact ⟨by rw [HF2.out] <;> rfl, HBe.out⟩
              · have HF2 := Lib.hid (show R = none by rw [HF.out]; unfold inTime; simp only; rw [if_pos (by omega)])
                have HR := Lib.hid (show a + m * 60 < -100000000000 ∨ 100000000000 < a + m * 60 by omega)
                clear hr
                go_wp2_with fail
                refine (refIn_no (a + m * 60) (-100000000000) 100000000000 _ HR.out).mono ?_
                rintro e w9 ⟨rfl, rfl⟩
                go_wp2_with fail
                go_ret2
                exact ⟨by rw [HF2.out] <;> rfl, HBe.out⟩
          · have hcn : a + m * 60 ≤ sec := by omega
            have HNoM := Lib.hid (fun (_ : Cr.day ⟨ci, ch, cd, cm, cw, ad, aw⟩ (Tide.moOf D) (Tide.dyOf D) ((D + 4) % 7) = true) => (show Cr.minB ⟨ci, ch, cd, cm, cw, ad, aw⟩ a sec 1 k = false by rw [HMin.out, decide_eq_false hc, Bool.and_false]))
            clear hc
            by_cases kz : k = 0
            · have hz : (m == 0) = true := by have := HEm.out; rw [show m = 0 by omega]; rfl
              have HKz := Lib.hid kz
              clear kz
              have x0 : W7.cell? ⟨w.heap.size, 0, none⟩ = some (.int .u64 (ci : Int)) := HX7.out.here (i := 0) rfl; have x1 : W7.cell? ⟨w.heap.size, 1, none⟩ = some (.int .u64 (ch : Int)) := HX7.out.here (i := 1) rfl; have x2 : W7.cell? ⟨w.heap.size, 2, none⟩ = some (.int .u64 (cd : Int)) := HX7.out.here (i := 2) rfl; have x3 : W7.cell? ⟨w.heap.size, 3, none⟩ = some (.int .u64 (cm : Int)) := HX7.out.here (i := 3) rfl; have x4 : W7.cell? ⟨w.heap.size, 4, none⟩ = some (.int .u64 (cw : Int)) := HX7.out.here (i := 4) rfl; have x5 : W7.cell? ⟨w.heap.size, 5, none⟩ = some (.bool ad) := HX7.out.here (i := 5) rfl; have x6 : W7.cell? ⟨w.heap.size, 6, none⟩ = some (.bool aw) := HX7.out.here (i := 6) rfl
              have t0' : W7.cell? ⟨g, 0, none⟩ = some (.int .i64 (Tide.yrOf D)) := HT7.out.here (i := 0) rfl; have t1' : W7.cell? ⟨g, 1, none⟩ = some (.int .i64 (Tide.moOf D)) := HT7.out.here (i := 1) rfl; have t2' : W7.cell? ⟨g, 2, none⟩ = some (.int .i64 (Tide.dyOf D)) := HT7.out.here (i := 2) rfl; have t3' : W7.cell? ⟨g, 3, none⟩ = some (.int .i64 (m / 60)) := HT7.out.here (i := 3) rfl; have t4' : W7.cell? ⟨g, 4, none⟩ = some (.int .i64 (m % 60)) := HT7.out.here (i := 4) rfl; have t5' : W7.cell? ⟨g, 5, none⟩ = some (.int .i64 0) := HT7.out.here (i := 5) rfl; have t6' : W7.cell? ⟨g, 6, none⟩ = some (.int .i64 ((D + 4) % 7)) := HT7.out.here (i := 6) rfl
              go_wp2_with fail
              refine (refMatch ⟨1152921504606846975, 16777215, cd, cm, cw, ad, aw⟩ HCf.out _ _ _ _ _ _ _ _).mono ?_
              rintro e w9 ⟨rfl, hb9⟩
              rw [HFull.out]
              have HB9 := Lib.hid (HB7.out.trans (hb9.mono HB7.out.size))
              have HT9 := Lib.hid (HT7.out.below hb9 HT7.out.inside)
              clear hb9 x0 x1 x2 x3 x4 x5 x6 t0' t1' t2' t3' t4' t5' t6' hz
              cases hday : Cr.day ⟨ci, ch, cd, cm, cw, ad, aw⟩ (Tide.moOf D) (Tide.dyOf D) ((D + 4) % 7)
              · have HF := Lib.hid (HNo.out (by rw [HHit.out, hday]; rfl))
                clear hday
                go_wp2_with fail
                go_roundw
                case rel => exact ⟨i + 1, by have := HI.out; omega, by go_num, HF, HB9⟩
                case measure => have := HI.out; simp [intOf]; omega
              · have HF := Lib.hid (HNoI.out (HNoM.out hday))
                have HD1 := Lib.hid hday
                clear hday
                go_wp2_with fail
                go_roundw
                case rel => exact ⟨k + 1, by have := HK.out; omega, by first | go_num | (rw [← HEm.out]; go_num), Lib.hid (fun _ => HD1.out), HF, HB9, Lib.hid ⟨_, _, HT9.out⟩⟩
                case measure => have := HK.out; have := HEm.out; simp [intOf]; omega
            · have hz : (m == 0) = false := by have := HEm.out; rw [beq_eq_false_iff_ne]; omega
              have HD1 := Lib.hid (HDay.out (by omega))
              have HF := Lib.hid (HNoI.out (HNoM.out HD1.out))
              clear kz
              go_wp2_with fail
              go_roundw
              case rel => exact ⟨k + 1, by have := HK.out; omega, by first | go_num | (rw [← HEm.out]; go_num), Lib.hid (fun _ => HD1.out), HF, HB7, Lib.hid ⟨_, _, HT7.out⟩⟩
              case measure => have := HK.out; have := HEm.out; simp [intOf]; omega
        · have hk3 : k = 1440 := by omega
          subst hk3
          have HF := Lib.hid (HNo.out (by rw [HHit.out, in_none HM.out]; simp))
          clear hk hk2
          go_wp2_with fail
          go_roundw
          case rel => exact ⟨i + 1, by have := HI.out; omega, by go_num, HF, HBk⟩
          case measure => have := HI.out; simp [intOf]; omega
    · have hie : i = 3001 := by omega
      subst hie
      have HF := Lib.hid (show R = none by rw [← hR.out]; unfold Cr.seekR; rw [Tide.under_all HN.out])
      have HBe := Lib.hid (HB3.out.trans (HB.out.mono HB3.out.size))
      clear hi hlt
      go_wp2_with fail
      go_ret2
      exact ⟨by rw [HF.out] <;> rfl, HBe.out⟩

set_option maxRecDepth 100000 in
set_option maxHeartbeats 12800000 in
theorem refSeekDn (c : Cr) (hf : c.fits) (sec shift : Int) (w : World) (hot : okTime sec shift) :
    Calls Try.prog 71 #[.agg c.cells, .int .i64 sec, .int .i64 shift, .int .i64 (-1)] w fun e w' => e = .returned (foundV (c.seekR sec shift (-1))) ∧ Below w.heap.size w w' := by
  obtain ⟨ci, ch, cd, cm, cw, ad, aw⟩ := c
  have HC := Lib.hid hf
  have HB0 := Lib.hid ((Below.refl w.heap.size w).alloc (Nat.le_refl _) (.cells #[.int .u64 (ci : Int), .int .u64 (ch : Int), .int .u64 (cd : Int), .int .u64 (cm : Int), .int .u64 (cw : Int), .bool ad, .bool aw] 61))
  have HX0 := Lib.hid (Tide.At.made w 61 #[.int .u64 (ci : Int), .int .u64 (ch : Int), .int .u64 (cd : Int), .int .u64 (cm : Int), .int .u64 (cw : Int), .bool ad, .bool aw])
  have HOt := Lib.hid hot
  have HCf := Lib.hid (show Cr.fits ⟨1152921504606846975, 16777215, cd, cm, cw, ad, aw⟩ from ⟨(by decide : 1152921504606846975 < 18446744073709551616), (by decide : 16777215 < 18446744073709551616), hf.2.2.1, hf.2.2.2.1, hf.2.2.2.2⟩)
  obtain ⟨R, hR⟩ : ∃ R, Hid (Cr.seekR ⟨ci, ch, cd, cm, cw, ad, aw⟩ sec shift (-1) = R) := ⟨_, Lib.hid rfl⟩
  rw [hR.out]
  obtain ⟨t0, t1, t2, t3⟩ := hot
  clear hf
  unfold Cr.cells
  go_enter Try.func71, Try.ntmps71
  go_wp2_with fail
  refine (refOf_yes sec shift _ HOt.out).mono ?_
  rintro e w2 ⟨rfl, hb2⟩
  have HB2 := Lib.hid (HB0.out.trans (hb2.mono HB0.out.size))
  have HX2 := Lib.hid (HX0.out.below hb2 HX0.out.inside)
  clear hb2 HB0 HX0
  unfold civAgg
  obtain ⟨h0, h1, m0, m1, s0, s1, hsum⟩ := rest_parts (sec + 60 * shift)
  obtain ⟨st, hSt⟩ : ∃ st, Hid (dayStart sec shift = st) := ⟨_, Lib.hid rfl⟩
  have hst : dayStart sec shift = sec - (sec + 60 * shift) % 86400 := rfl
  have HStE := Lib.hid (show st = sec - (sec + 60 * shift) % 86400 by rw [← hSt.out]; rfl)
  generalize (sec + 60 * shift) % 86400 / 3600 = hh at h0 h1 hsum ⊢
  generalize (sec + 60 * shift) % 86400 / 60 % 60 = hm at m0 m1 hsum ⊢
  generalize (sec + 60 * shift) % 86400 % 60 = hs at s0 s1 hsum ⊢
  have q1 : IntKind.i64.wrap (hh * 60) = hh * 60 := IntWalk.i64_in _ (by omega)
  have q2 : IntKind.i64.wrap (hh * 60 + hm) = hh * 60 + hm := IntWalk.i64_in _ (by omega)
  have q3 : IntKind.i64.wrap ((hh * 60 + hm) * 60) = (hh * 60 + hm) * 60 := IntWalk.i64_in _ (by omega)
  have q4 : IntKind.i64.wrap (sec - (hh * 60 + hm) * 60) = sec - (hh * 60 + hm) * 60 := IntWalk.i64_in _ (by omega)
  have q5 : IntKind.i64.wrap (sec - (hh * 60 + hm) * 60 - hs) = sec - (hh * 60 + hm) * 60 - hs := IntWalk.i64_in _ (by omega)
  have q6 : sec - (hh * 60 + hm) * 60 - hs = st := by rw [← hSt.out, hst, ← hsum]; omega
  have st0 : -100000100000 ≤ st := by have := HStE.out; omega
  have st1 : st ≤ 100000000000 := by have := HStE.out; omega
  go_upto_region 3 with fail
  try rw [q6]
  clear q1 q2 q3 q4 q5 q6 h0 h1 m0 m1 s0 s1 hsum hst
  have HB3 := Lib.hid (HB2.out.alloc HB2.out.size (.cells #[.int .i64 (Tide.yrOf ((sec + 60 * shift) / 86400)), .int .i64 (Tide.moOf ((sec + 60 * shift) / 86400)), .int .i64 (Tide.dyOf ((sec + 60 * shift) / 86400)), .int .i64 hh, .int .i64 hm, .int .i64 hs, .int .i64 (((sec + 60 * shift) / 86400 + 4) % 7)] 105))
  have HX3 := Lib.hid (HX2.out.alloc (.cells #[.int .i64 (Tide.yrOf ((sec + 60 * shift) / 86400)), .int .i64 (Tide.moOf ((sec + 60 * shift) / 86400)), .int .i64 (Tide.dyOf ((sec + 60 * shift) / 86400)), .int .i64 hh, .int .i64 hm, .int .i64 hs, .int .i64 (((sec + 60 * shift) / 86400 + 4) % 7)] 105))
  clear HB2 HX2
  go_wp2_with fail
  generalize w2.alloc (.cells #[.int .i64 (Tide.yrOf ((sec + 60 * shift) / 86400)), .int .i64 (Tide.moOf ((sec + 60 * shift) / 86400)), .int .i64 (Tide.dyOf ((sec + 60 * shift) / 86400)), .int .i64 hh, .int .i64 hm, .int .i64 hs, .int .i64 (((sec + 60 * shift) / 86400 + 4) % 7)] 105) = W at HB3 HX3 ⊢
  go_loopw [13] (fun x wr => ∃ i : Nat, i ≤ 3001 ∧ x = .int .i64 i ∧ Hid (∀ q, q < i → Cr.hitR ⟨ci, ch, cd, cm, cw, ad, aw⟩ sec shift (-1) q = false) ∧ Hid (Below W.heap.size W wr)) (fun x _ => 3001 - (intOf x).toNat)
  case atStart => exact ⟨0, by omega, rfl, Lib.hid (fun q hq => by omega), Lib.hid (Below.refl _ _)⟩
  case round =>
    obtain ⟨i, hi, rfl, HN, HB⟩ := hrel
    by_cases hlt : i < 3001
    · have i0 : (0 : Int) ≤ (i : Int) := by omega
      have i1 : (i : Int) ≤ 3000 := by omega
      have q1 : IntKind.i64.wrap ((-1) * (i : Int)) = (-1) * (i : Int) := IntWalk.i64_in _ (by omega)
      have q2 : IntKind.i64.wrap ((-1) * (i : Int) * 86400) = (-1) * (i : Int) * 86400 := IntWalk.i64_in _ (by omega)
      have q3 : IntKind.i64.wrap (st + (-1) * (i : Int) * 86400) = st + (-1) * (i : Int) * 86400 := IntWalk.i64_in _ (by omega)
      go_upto_region 7 with fail
      obtain ⟨a, ha⟩ : ∃ a, Hid (st + -(i : Int) * 86400 = a) := ⟨_, Lib.hid rfl⟩
      rw [ha.out]
      have HDa := Lib.hid (show dayAt sec shift (-1) i = a by unfold dayAt; rw [hSt.out, ← ha.out]; omega)
      obtain ⟨D, hD⟩ : ∃ D, Hid ((sec + 60 * shift) / 86400 + (-1) * (i : Int) = D) := ⟨_, Lib.hid rfl⟩
      have HaD := Lib.hid (show a + shift * 60 = 86400 * D from hD.out ▸ day_no HStE.out (-1) i a (by rw [← ha.out]; omega))
      have a0 : -100300000000 ≤ a := by have := ha.out; omega
      have a1 : a ≤ 100300000000 := by have := ha.out; omega
      have d0 : -4000000 ≤ D := by have := HaD.out; omega
      have d1 : D ≤ 4000000 := by have := HaD.out; omega
      have HDv := Lib.hid (show (a + 60 * shift) / 86400 = D by have := HaD.out; omega)
      have HHit := Lib.hid (show Cr.hitR ⟨ci, ch, cd, cm, cw, ad, aw⟩ sec shift (-1) i = (Cr.day ⟨ci, ch, cd, cm, cw, ad, aw⟩ (Tide.moOf D) (Tide.dyOf D) ((D + 4) % 7) && (Cr.inDay ⟨ci, ch, cd, cm, cw, ad, aw⟩ a sec (-1)).isSome) by unfold Cr.hitR Cr.dayFitR; rw [HDa.out, HDv.out])
      have HNo := Lib.hid (fun (h : Cr.hitR ⟨ci, ch, cd, cm, cw, ad, aw⟩ sec shift (-1) i = false) => below_succ HN.out h)
      have HYes := Lib.hid (fun (h : Cr.hitR ⟨ci, ch, cd, cm, cw, ad, aw⟩ sec shift (-1) i = true) => (show R = inTime (Cr.inDay ⟨ci, ch, cd, cm, cw, ad, aw⟩ a sec (-1)) by rw [← hR.out]; unfold Cr.seekR; rw [Tide.under_is hlt h HN.out]; simp only [HDa.out]))
      have e1 : (a + shift * 60).tdiv 86400 = D := (exact_day HaD.out).1
      have e2 : (a + shift * 60).tmod 86400 = 0 := (exact_day HaD.out).2
      have HRw := Lib.hid (show rest (D + 4) 7 = (D + 4) % 7 from rfl)
      have HI := Lib.hid hlt
      clear q1 q2 q3 hi hlt
      go_wp2_with fail
      refine (refDate D _ d0 d1).mono ?_
      rintro e w4 ⟨rfl, hb4⟩
      have HB4 := Lib.hid (HB.out.trans (hb4.mono HB.out.size))
      clear hb4
      go_wp2_with fail
      refine (refRest (D + 4) 7 _ (by omega) (by omega)).mono ?_
      rintro e w5 ⟨rfl, rfl⟩
      rw [HRw.out]
      go_upto_region 12 with fail
      have HB5 := Lib.hid (HB4.out.alloc HB4.out.size (.cells #[.int .i64 (Tide.yrOf D), .int .i64 (Tide.moOf D), .int .i64 (Tide.dyOf D), .int .i64 0, .int .i64 0, .int .i64 0, .int .i64 ((D + 4) % 7)] 105))
      have HT5 := Lib.hid (Tide.At.made w4 105 #[.int .i64 (Tide.yrOf D), .int .i64 (Tide.moOf D), .int .i64 (Tide.dyOf D), .int .i64 0, .int .i64 0, .int .i64 0, .int .i64 ((D + 4) % 7)])
      have HG := Lib.hid HB4.out.size
      generalize w4.alloc (.cells #[.int .i64 (Tide.yrOf D), .int .i64 (Tide.moOf D), .int .i64 (Tide.dyOf D), .int .i64 0, .int .i64 0, .int .i64 0, .int .i64 ((D + 4) % 7)] 105) = W5 at HB5 HT5 ⊢
      generalize w4.heap.size = g at HT5 HG ⊢
      clear e1 e2 HB4 HRw
      rename World => Wr0
      go_wp2_with fail
      go_loopw [20] (fun x wr => ∃ k : Nat, k ≤ 1440 ∧ x = .int .i64 k ∧ Hid (0 < k → Cr.day ⟨ci, ch, cd, cm, cw, ad, aw⟩ (Tide.moOf D) (Tide.dyOf D) ((D + 4) % 7) = true) ∧ Hid (∀ q, q < k → Cr.minB ⟨ci, ch, cd, cm, cw, ad, aw⟩ a sec (-1) q = false) ∧ Hid (Below W.heap.size W wr) ∧ Hid (∃ p q : Int, Tide.At wr g 105 #[.int .i64 (Tide.yrOf D), .int .i64 (Tide.moOf D), .int .i64 (Tide.dyOf D), .int .i64 p, .int .i64 q, .int .i64 0, .int .i64 ((D + 4) % 7)])) (fun x _ => 1440 - (intOf x).toNat)
      case atStart => exact ⟨0, by omega, rfl, Lib.hid (fun h => by omega), Lib.hid (fun q hq => by omega), HB5, Lib.hid ⟨0, 0, HT5.out⟩⟩
      case round =>
        obtain ⟨k, hk, rfl, HDay, HM, HBk, HTk⟩ := hrel
        by_cases hk2 : k < 1440
        · obtain ⟨p, q, hAt⟩ := HTk.out
          obtain ⟨m, hm⟩ : ∃ m, Hid (Tide.minOf (-1) k = m) := ⟨_, Lib.hid rfl⟩
          have k0 : (0 : Int) ≤ (k : Int) := by omega
          have k1 : (k : Int) < 1440 := by omega
          have m0 : 0 ≤ m := by have := hm.out; unfold Tide.minOf at this; simp at this; omega
          have m1 : m < 1440 := by have := hm.out; unfold Tide.minOf at this; simp at this; omega
          have em : 1439 - (k : Int) = m := by have := hm.out; unfold Tide.minOf at this; simp at this; omega
          have HMin := Lib.hid (show Cr.minB ⟨ci, ch, cd, cm, cw, ad, aw⟩ a sec (-1) k = (hasB ch (m / 60) && hasB ci (m % 60) && decide (a + 60 * m ≤ sec)) by unfold Cr.minB; rw [hm.out]; rfl)
          have HYesI := Lib.hid (fun (h : Cr.minB ⟨ci, ch, cd, cm, cw, ad, aw⟩ a sec (-1) k = true) => (in_some hk2 h HM.out).trans (congrArg (fun z => some (a + 60 * z)) hm.out))
          have HNoI := Lib.hid (fun (h : Cr.minB ⟨ci, ch, cd, cm, cw, ad, aw⟩ a sec (-1) k = false) => below_succ HM.out h)
          have HX := Lib.hid (HX3.out.below HBk.out HX3.out.inside)
          have HT := Lib.hid hAt
          have y3 := hAt.here (i := 3) rfl; have y4 := hAt.here (i := 4) rfl; have f3 := hAt.soft 3; have f4 := hAt.soft 4
          clear hAt HTk
          go_upto_region 18 with fail
          try rw [em]
          have w1 : IntKind.i64.wrap (m * 60) = m * 60 := IntWalk.i64_in _ (by omega)
          have w2 : IntKind.i64.wrap (a + m * 60) = a + m * 60 := IntWalk.i64_in _ (by omega)
          have HK := Lib.hid hk2
          have HEm := Lib.hid em
          clear em hk hk2
          go_upto_region 20 with fail
          have HNe := Lib.hid (show w.heap.size ≠ g by have := HX3.out.inside; have := HG.out; have := HB.out.size; omega)
          have HT7 := Lib.hid (show Tide.At ((wr.setCell ⟨g, 3, none⟩ (.int .i64 (m / 60))).setCell ⟨g, 4, none⟩ (.int .i64 (m % 60))) g 105 #[.int .i64 (Tide.yrOf D), .int .i64 (Tide.moOf D), .int .i64 (Tide.dyOf D), .int .i64 (m / 60), .int .i64 (m % 60), .int .i64 0, .int .i64 ((D + 4) % 7)] from (HT.out.put 3 (.int .i64 (m / 60))).put 4 (.int .i64 (m % 60)))
          have HX7 := Lib.hid ((HX.out.other (p := ⟨g, 3, none⟩) HNe.out (.int .i64 (m / 60))).other (p := ⟨g, 4, none⟩) HNe.out (.int .i64 (m % 60)))
          have HB7 := Lib.hid ((HBk.out.setCell (p := ⟨g, 3, none⟩) (show W.heap.size ≤ g by have := HG.out; omega) (.int .i64 (m / 60))).setCell (p := ⟨g, 4, none⟩) (show W.heap.size ≤ g by have := HG.out; omega) (.int .i64 (m % 60)))
          generalize (wr.setCell ⟨g, 3, none⟩ (.int .i64 (m / 60))).setCell ⟨g, 4, none⟩ (.int .i64 (m % 60)) = W7 at HT7 HX7 HB7 ⊢
          clear HT HX HBk y3 y4 f3 f4 HNe w1 w2
          have HFull := Lib.hid (show Cr.fit ⟨1152921504606846975, 16777215, cd, cm, cw, ad, aw⟩ (Tide.moOf D) (Tide.dyOf D) (m / 60) (m % 60) ((D + 4) % 7) = Cr.day ⟨ci, ch, cd, cm, cw, ad, aw⟩ (Tide.moOf D) (Tide.dyOf D) ((D + 4) % 7) by
            unfold Cr.fit
            rw [show hasB (Cr.h ⟨1152921504606846975, 16777215, cd, cm, cw, ad, aw⟩) (m / 60) = true from (full_has (m / 60) (by omega)).2 (by omega), show hasB (Cr.mi ⟨1152921504606846975, 16777215, cd, cm, cw, ad, aw⟩) (m % 60) = true from (full_has (m % 60) (by omega)).1 (by omega), Bool.and_true, Bool.and_true]; rfl)
          have HFit := Lib.hid (show Cr.fit ⟨ci, ch, cd, cm, cw, ad, aw⟩ (Tide.moOf D) (Tide.dyOf D) (m / 60) (m % 60) ((D + 4) % 7) = (Cr.day ⟨ci, ch, cd, cm, cw, ad, aw⟩ (Tide.moOf D) (Tide.dyOf D) ((D + 4) % 7) && hasB ch (m / 60) && hasB ci (m % 60)) from rfl)
          have HE60 := Lib.hid (show a + 60 * m = a + m * 60 by omega)
          rw [HE60.out] at HMin HYesI
          by_cases hc : a + m * 60 ≤ sec
          · have HC2 := Lib.hid hc
            have x0 : W7.cell? ⟨w.heap.size, 0, none⟩ = some (.int .u64 (ci : Int)) := HX7.out.here (i := 0) rfl; have x1 : W7.cell? ⟨w.heap.size, 1, none⟩ = some (.int .u64 (ch : Int)) := HX7.out.here (i := 1) rfl; have x2 : W7.cell? ⟨w.heap.size, 2, none⟩ = some (.int .u64 (cd : Int)) := HX7.out.here (i := 2) rfl; have x3 : W7.cell? ⟨w.heap.size, 3, none⟩ = some (.int .u64 (cm : Int)) := HX7.out.here (i := 3) rfl; have x4 : W7.cell? ⟨w.heap.size, 4, none⟩ = some (.int .u64 (cw : Int)) := HX7.out.here (i := 4) rfl; have x5 : W7.cell? ⟨w.heap.size, 5, none⟩ = some (.bool ad) := HX7.out.here (i := 5) rfl; have x6 : W7.cell? ⟨w.heap.size, 6, none⟩ = some (.bool aw) := HX7.out.here (i := 6) rfl
            have t0' : W7.cell? ⟨g, 0, none⟩ = some (.int .i64 (Tide.yrOf D)) := HT7.out.here (i := 0) rfl; have t1' : W7.cell? ⟨g, 1, none⟩ = some (.int .i64 (Tide.moOf D)) := HT7.out.here (i := 1) rfl; have t2' : W7.cell? ⟨g, 2, none⟩ = some (.int .i64 (Tide.dyOf D)) := HT7.out.here (i := 2) rfl; have t3' : W7.cell? ⟨g, 3, none⟩ = some (.int .i64 (m / 60)) := HT7.out.here (i := 3) rfl; have t4' : W7.cell? ⟨g, 4, none⟩ = some (.int .i64 (m % 60)) := HT7.out.here (i := 4) rfl; have t5' : W7.cell? ⟨g, 5, none⟩ = some (.int .i64 0) := HT7.out.here (i := 5) rfl; have t6' : W7.cell? ⟨g, 6, none⟩ = some (.int .i64 ((D + 4) % 7)) := HT7.out.here (i := 6) rfl
            go_wp2_with fail
            refine (refMatch ⟨ci, ch, cd, cm, cw, ad, aw⟩ HC.out _ _ _ _ _ _ _ _).mono ?_
            rintro e w8 ⟨rfl, hb8⟩
            have HB8 := Lib.hid (HB7.out.trans (hb8.mono HB7.out.size))
            have HX8 := Lib.hid (HX7.out.below hb8 HX7.out.inside)
            have HT8 := Lib.hid (HT7.out.below hb8 HT7.out.inside)
            clear hb8 x0 x1 x2 x3 x4 x5 x6 t0' t1' t2' t3' t4' t5' t6' HX7 HT7 HB7
            cases hfit : Cr.fit ⟨ci, ch, cd, cm, cw, ad, aw⟩ (Tide.moOf D) (Tide.dyOf D) (m / 60) (m % 60) ((D + 4) % 7)
            · have HNoM := Lib.hid (fun (hd : Cr.day ⟨ci, ch, cd, cm, cw, ad, aw⟩ (Tide.moOf D) (Tide.dyOf D) ((D + 4) % 7) = true) => (show Cr.minB ⟨ci, ch, cd, cm, cw, ad, aw⟩ a sec (-1) k = false by
                rw [HMin.out]
                have h := HFit.out
                rw [hfit, hd, Bool.true_and] at h
                rw [← h]; rfl))
              clear hfit hc
              by_cases kz : k = 0
              · have hz : ((k : Int) == 0) = true := by have := HEm.out; rw [show (k : Int) = 0 by omega]; rfl
                have HKz := Lib.hid kz
                clear kz
                have x0 : w8.cell? ⟨w.heap.size, 0, none⟩ = some (.int .u64 (ci : Int)) := HX8.out.here (i := 0) rfl; have x1 : w8.cell? ⟨w.heap.size, 1, none⟩ = some (.int .u64 (ch : Int)) := HX8.out.here (i := 1) rfl; have x2 : w8.cell? ⟨w.heap.size, 2, none⟩ = some (.int .u64 (cd : Int)) := HX8.out.here (i := 2) rfl; have x3 : w8.cell? ⟨w.heap.size, 3, none⟩ = some (.int .u64 (cm : Int)) := HX8.out.here (i := 3) rfl; have x4 : w8.cell? ⟨w.heap.size, 4, none⟩ = some (.int .u64 (cw : Int)) := HX8.out.here (i := 4) rfl; have x5 : w8.cell? ⟨w.heap.size, 5, none⟩ = some (.bool ad) := HX8.out.here (i := 5) rfl; have x6 : w8.cell? ⟨w.heap.size, 6, none⟩ = some (.bool aw) := HX8.out.here (i := 6) rfl
                have t0' : w8.cell? ⟨g, 0, none⟩ = some (.int .i64 (Tide.yrOf D)) := HT8.out.here (i := 0) rfl; have t1' : w8.cell? ⟨g, 1, none⟩ = some (.int .i64 (Tide.moOf D)) := HT8.out.here (i := 1) rfl; have t2' : w8.cell? ⟨g, 2, none⟩ = some (.int .i64 (Tide.dyOf D)) := HT8.out.here (i := 2) rfl; have t3' : w8.cell? ⟨g, 3, none⟩ = some (.int .i64 (m / 60)) := HT8.out.here (i := 3) rfl; have t4' : w8.cell? ⟨g, 4, none⟩ = some (.int .i64 (m % 60)) := HT8.out.here (i := 4) rfl; have t5' : w8.cell? ⟨g, 5, none⟩ = some (.int .i64 0) := HT8.out.here (i := 5) rfl; have t6' : w8.cell? ⟨g, 6, none⟩ = some (.int .i64 ((D + 4) % 7)) := HT8.out.here (i := 6) rfl
                go_wp2_with fail
                refine (refMatch ⟨1152921504606846975, 16777215, cd, cm, cw, ad, aw⟩ HCf.out _ _ _ _ _ _ _ _).mono ?_
                rintro e w9 ⟨rfl, hb9⟩
                rw [HFull.out]
                have HB9 := Lib.hid (HB8.out.trans (hb9.mono HB8.out.size))
                have HT9 := Lib.hid (HT8.out.below hb9 HT8.out.inside)
                clear hb9 x0 x1 x2 x3 x4 x5 x6 t0' t1' t2' t3' t4' t5' t6' hz
                cases hday : Cr.day ⟨ci, ch, cd, cm, cw, ad, aw⟩ (Tide.moOf D) (Tide.dyOf D) ((D + 4) % 7)
                · have HF := Lib.hid (HNo.out (by rw [HHit.out, hday]; rfl))
                  clear hday
                  go_wp2_with fail
                  go_roundw
                  case rel => exact ⟨i + 1, by have := HI.out; omega, by go_num, HF, HB9⟩
                  case measure => have := HI.out; simp [intOf]; omega
                · have HF := Lib.hid (HNoI.out (HNoM.out hday))
                  have HD1 := Lib.hid hday
                  clear hday
                  go_wp2_with fail
                  go_roundw
                  case rel => exact ⟨k + 1, by have := HK.out; omega, by first | go_num | (rw [← HEm.out]; go_num), Lib.hid (fun _ => HD1.out), HF, HB9, Lib.hid ⟨_, _, HT9.out⟩⟩
                  case measure => have := HK.out; have := HEm.out; simp [intOf]; omega
              · have hz : ((k : Int) == 0) = false := by have := HEm.out; rw [beq_eq_false_iff_ne]; omega
                have HD1 := Lib.hid (HDay.out (by omega))
                have HF := Lib.hid (HNoI.out (HNoM.out HD1.out))
                clear kz
                go_wp2_with fail
                go_roundw
                case rel => exact ⟨k + 1, by have := HK.out; omega, by first | go_num | (rw [← HEm.out]; go_num), Lib.hid (fun _ => HD1.out), HF, HB8, Lib.hid ⟨_, _, HT8.out⟩⟩
                case measure => have := HK.out; have := HEm.out; simp [intOf]; omega
            · have hp : Cr.day ⟨ci, ch, cd, cm, cw, ad, aw⟩ (Tide.moOf D) (Tide.dyOf D) ((D + 4) % 7) = true ∧ hasB ch (m / 60) = true ∧ hasB ci (m % 60) = true := by
                have h := HFit.out
                rw [hfit] at h
                have h2 := h.symm
                simp only [Bool.and_eq_true] at h2
                exact ⟨h2.1.1, h2.1.2, h2.2⟩
              have hin := HYesI.out (by rw [HMin.out, hp.2.1, hp.2.2, decide_eq_true hc]; rfl)
              have HF := Lib.hid (show R = inTime (some (a + m * 60)) by rw [HYes.out (by rw [HHit.out, hp.1, hin]; rfl), hin])
              clear hfit hc hp hin HNoI
              have x1e : a + m * 60 ≤ 200000000000 := by omega
              have HBe := Lib.hid (HB3.out.trans (HB8.out.mono HB3.out.size))
              by_cases hr : -100000000000 ≤ a + m * 60 ∧ a + m * 60 ≤ 100000000000
              · have HF2 := Lib.hid (show R = some (a + m * 60) by rw [HF.out]; unfold inTime; simp only; rw [if_neg (by omega)])
                have HR := Lib.hid hr
                clear hr
                go_wp2_with fail
                refine (refIn_yes (a + m * 60) (-100000000000) 100000000000 _ HR.out.1 HR.out.2).mono ?_
                rintro e w9 ⟨rfl, rfl⟩
                go_wp2_with fail
                go_ret2
                exact ⟨by rw [HF2.out] <;> rfl, HBe.out⟩
              · have HF2 := Lib.hid (show R = none by rw [HF.out]; unfold inTime; simp only; rw [if_pos (by omega)])
                have HR := Lib.hid (show a + m * 60 < -100000000000 ∨ 100000000000 < a + m * 60 by omega)
                clear hr
                go_wp2_with fail
                refine (refIn_no (a + m * 60) (-100000000000) 100000000000 _ HR.out).mono ?_
                rintro e w9 ⟨rfl, rfl⟩
                go_wp2_with fail
                go_ret2
                exact ⟨by rw [HF2.out] <;> rfl, HBe.out⟩
          · have hcn : sec < a + m * 60 := by omega
            have HNoM := Lib.hid (fun (_ : Cr.day ⟨ci, ch, cd, cm, cw, ad, aw⟩ (Tide.moOf D) (Tide.dyOf D) ((D + 4) % 7) = true) => (show Cr.minB ⟨ci, ch, cd, cm, cw, ad, aw⟩ a sec (-1) k = false by rw [HMin.out, decide_eq_false hc, Bool.and_false]))
            clear hc
            by_cases kz : k = 0
            · have hz : ((k : Int) == 0) = true := by have := HEm.out; rw [show (k : Int) = 0 by omega]; rfl
              have HKz := Lib.hid kz
              clear kz
              have x0 : W7.cell? ⟨w.heap.size, 0, none⟩ = some (.int .u64 (ci : Int)) := HX7.out.here (i := 0) rfl; have x1 : W7.cell? ⟨w.heap.size, 1, none⟩ = some (.int .u64 (ch : Int)) := HX7.out.here (i := 1) rfl; have x2 : W7.cell? ⟨w.heap.size, 2, none⟩ = some (.int .u64 (cd : Int)) := HX7.out.here (i := 2) rfl; have x3 : W7.cell? ⟨w.heap.size, 3, none⟩ = some (.int .u64 (cm : Int)) := HX7.out.here (i := 3) rfl; have x4 : W7.cell? ⟨w.heap.size, 4, none⟩ = some (.int .u64 (cw : Int)) := HX7.out.here (i := 4) rfl; have x5 : W7.cell? ⟨w.heap.size, 5, none⟩ = some (.bool ad) := HX7.out.here (i := 5) rfl; have x6 : W7.cell? ⟨w.heap.size, 6, none⟩ = some (.bool aw) := HX7.out.here (i := 6) rfl
              have t0' : W7.cell? ⟨g, 0, none⟩ = some (.int .i64 (Tide.yrOf D)) := HT7.out.here (i := 0) rfl; have t1' : W7.cell? ⟨g, 1, none⟩ = some (.int .i64 (Tide.moOf D)) := HT7.out.here (i := 1) rfl; have t2' : W7.cell? ⟨g, 2, none⟩ = some (.int .i64 (Tide.dyOf D)) := HT7.out.here (i := 2) rfl; have t3' : W7.cell? ⟨g, 3, none⟩ = some (.int .i64 (m / 60)) := HT7.out.here (i := 3) rfl; have t4' : W7.cell? ⟨g, 4, none⟩ = some (.int .i64 (m % 60)) := HT7.out.here (i := 4) rfl; have t5' : W7.cell? ⟨g, 5, none⟩ = some (.int .i64 0) := HT7.out.here (i := 5) rfl; have t6' : W7.cell? ⟨g, 6, none⟩ = some (.int .i64 ((D + 4) % 7)) := HT7.out.here (i := 6) rfl
              go_wp2_with fail
              refine (refMatch ⟨1152921504606846975, 16777215, cd, cm, cw, ad, aw⟩ HCf.out _ _ _ _ _ _ _ _).mono ?_
              rintro e w9 ⟨rfl, hb9⟩
              rw [HFull.out]
              have HB9 := Lib.hid (HB7.out.trans (hb9.mono HB7.out.size))
              have HT9 := Lib.hid (HT7.out.below hb9 HT7.out.inside)
              clear hb9 x0 x1 x2 x3 x4 x5 x6 t0' t1' t2' t3' t4' t5' t6' hz
              cases hday : Cr.day ⟨ci, ch, cd, cm, cw, ad, aw⟩ (Tide.moOf D) (Tide.dyOf D) ((D + 4) % 7)
              · have HF := Lib.hid (HNo.out (by rw [HHit.out, hday]; rfl))
                clear hday
                go_wp2_with fail
                go_roundw
                case rel => exact ⟨i + 1, by have := HI.out; omega, by go_num, HF, HB9⟩
                case measure => have := HI.out; simp [intOf]; omega
              · have HF := Lib.hid (HNoI.out (HNoM.out hday))
                have HD1 := Lib.hid hday
                clear hday
                go_wp2_with fail
                go_roundw
                case rel => exact ⟨k + 1, by have := HK.out; omega, by first | go_num | (rw [← HEm.out]; go_num), Lib.hid (fun _ => HD1.out), HF, HB9, Lib.hid ⟨_, _, HT9.out⟩⟩
                case measure => have := HK.out; have := HEm.out; simp [intOf]; omega
            · have hz : ((k : Int) == 0) = false := by have := HEm.out; rw [beq_eq_false_iff_ne]; omega
              have HD1 := Lib.hid (HDay.out (by omega))
              have HF := Lib.hid (HNoI.out (HNoM.out HD1.out))
              clear kz
              go_wp2_with fail
              go_roundw
              case rel => exact ⟨k + 1, by have := HK.out; omega, by first | go_num | (rw [← HEm.out]; go_num), Lib.hid (fun _ => HD1.out), HF, HB7, Lib.hid ⟨_, _, HT7.out⟩⟩
              case measure => have := HK.out; have := HEm.out; simp [intOf]; omega
        · have hk3 : k = 1440 := by omega
          subst hk3
          have HF := Lib.hid (HNo.out (by rw [HHit.out, in_none HM.out]; simp))
          clear hk hk2
          go_wp2_with fail
          go_roundw
          case rel => exact ⟨i + 1, by have := HI.out; omega, by go_num, HF, HBk⟩
          case measure => have := HI.out; simp [intOf]; omega
    · have hie : i = 3001 := by omega
      subst hie
      have HF := Lib.hid (show R = none by rw [← hR.out]; unfold Cr.seekR; rw [Tide.under_all HN.out])
      have HBe := Lib.hid (HB3.out.trans (HB.out.mono HB3.out.size))
      clear hi hlt
      go_wp2_with fail
      go_ret2
      exact ⟨by rw [HF.out] <;> rfl, HBe.out⟩
end Go.Proofs.Ytcnoapogeohmkaa
