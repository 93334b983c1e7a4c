/- The contract of daily; the walk of CronOr. -/
import Derived.Test.YtfipfikinkhpmaaCronD
import Derived.RegionTactic
import Derived.Deep.DeepCutAuto
namespace Go.Proofs.Ytfipfikinkhpmaa
open Go.RowKit
set_option linter.unusedVariables false

/-- a cron of each day at a time -/
def dailyCr (h m : Nat) : Cr := ⟨2 ^ m, 2 ^ h, 4294967294, 8190, 127, true, true⟩
theorem dailyCr_fits {h m : Nat} (h1 : h ≤ 23) (h2 : m ≤ 59) : (dailyCr h m).fits := by
  have e1 : 2 ^ m ≤ 2 ^ 59 := Nat.pow_le_pow_right (by omega) h2
  have e2 : 2 ^ h ≤ 2 ^ 23 := Nat.pow_le_pow_right (by omega) h1
  have p1 : 2 ^ 59 = 576460752303423488 := by decide
  have p2 : 2 ^ 23 = 8388608 := by decide
  refine ⟨?_, ?_, ?_, ?_, ?_⟩
  · show 2 ^ m < _; omega
  · show 2 ^ h < _; omega
  · show (4294967294 : Nat) < _; omega
  · show (8190 : Nat) < _; omega
  · show (127 : Nat) < _; omega
set_option maxRecDepth 100000 in
set_option maxHeartbeats 800000 in
theorem cronDaily (h m : Nat) (w : World) (h1 : h ≤ 23) (h2 : m ≤ 59) : Calls Try.prog 23 #[.int .i64 h, .int .i64 m] w fun e w' => e = .returned (.agg (dailyCr h m).cells) ∧ Below w.heap.size w w' := by
  have l0 : (0 : Int) ≤ (h : Int) := by omega
  have l1 : (h : Int) ≤ 60 := by omega
  have l2 : (0 : Int) ≤ (m : Int) := by omega
  have l3 : (m : Int) ≤ 60 := by omega
  have P1 := Lib.hid (pow_u64 (k := h) (by omega)); have P2 := Lib.hid (pow_u64 (k := m) (by omega))
  clear h1 h2
  go_enter Try.func23, Try.ntmps23
  go_wp2_with fail
  go_region
  all_goals
    go_wp2_with fail
    rw [P1.out, P2.out]
    refine bodyPost_ret (v := .agg (dailyCr h m).cells) (by simp [results, Try.results23, go_sem, dailyCr, Cr.cells]) rfl ⟨rfl, ?_⟩
    exact ((Below.refl _ _).alloc (Nat.le_refl _) _).drew

/-- either is enough -/
theorem Cr.either (c : Cr) (mo d h mi wk : Int) (hok : c.ok = true) (h1 : c.ad = false) (h2 : c.aw = false) (d0 : 1 ≤ d) (d1 : d ≤ 31) (w0 : 0 ≤ wk) (w1 : wk ≤ 6) :
    Cr.ok { c with wk := 127, aw := true } = true ∧ Cr.ok { c with d := 4294967294, ad := true } = true ∧
    c.match mo d h mi wk = (Cr.match { c with wk := 127, aw := true } mo d h mi wk || Cr.match { c with d := 4294967294, ad := true } mo d h mi wk) := by
  obtain ⟨ci, ch, cd, cm, cw, ad, aw⟩ := c
  simp only at h1 h2; subst h1 h2
  have k0 := Cr.ok_at hok 0 (by omega); have k1 := Cr.ok_at hok 1 (by omega); have k2 := Cr.ok_at hok 2 (by omega); have k3 := Cr.ok_at hok 3 (by omega); have k4 := Cr.ok_at hok 4 (by omega)
  have a1 : Tide.okField 127 0 6 true = true := by decide +kernel
  have a2 : Tide.okField 4294967294 1 31 true = true := by decide +kernel
  have o1 : Cr.ok ⟨ci, ch, cd, cm, 127, false, true⟩ = true := by
    refine Cr.ok_of fun i hi => ?_
    match i, hi with
    | 0, _ => exact k0
    | 1, _ => exact k1
    | 2, _ => exact k2
    | 3, _ => exact k3
    | 4, _ => exact a1
  have o2 : Cr.ok ⟨ci, ch, 4294967294, cm, cw, true, false⟩ = true := by
    refine Cr.ok_of fun i hi => ?_
    match i, hi with
    | 0, _ => exact k0
    | 1, _ => exact k1
    | 2, _ => exact a2
    | 3, _ => exact k3
    | 4, _ => exact k4
  refine ⟨o1, o2, ?_⟩
  obtain ⟨dn, rfl⟩ := Int.eq_ofNat_of_zero_le (show 0 ≤ d by omega)
  obtain ⟨wn, rfl⟩ := Int.eq_ofNat_of_zero_le w0
  have b1 : hasB 127 (wn : Int) = true := by
    have : wn ≤ 6 := by omega
    match wn, this with | 0, _ | 1, _ | 2, _ | 3, _ | 4, _ | 5, _ | 6, _ => decide +kernel
  have b2 : hasB 4294967294 (dn : Int) = true := by
    have : ∀ n : Fin 32, 1 ≤ n.val → hasB 4294967294 (n.val : Int) = true := by decide +kernel
    exact this ⟨dn, by omega⟩ (by show 1 ≤ dn; omega)
  simp only [Cr.match, hok, o1, o2, Cr.fit, Cr.day, b1, b2, Bool.or_true, Bool.true_or, Bool.or_false, Bool.false_or, Bool.and_true, Bool.true_and, if_true, Bool.false_eq_true, if_false]
  cases hasB cm mo <;> cases hasB cd (dn : Int) <;> cases hasB cw (wn : Int) <;> cases hasB ch h <;> cases hasB ci mi <;> rfl

/-- two crons in blocks of their own -/
structure TwoAt (w0 w w' : World) (ga gb : Nat) (A B : Array Value) : Prop where
  one : Tide.At w' ga 37 A
  two : Tide.At w' gb 37 B
  apart : ga ≠ gb
  own : w.heap.size ≤ ga ∧ w.heap.size ≤ gb
  below : Below w.heap.size w w'

theorem two_made (w0 w3 : World) (A : Array Value) : TwoAt w0 w3 (((w3.alloc (.cells A 37)).alloc (.cells A 37)).drew) w3.heap.size (w3.heap.size + 1) A A ∧
    TwoAt w0 w3 (((w3.alloc (.cells A 37)).alloc (.cells A 37)).drew) (w3.heap.size + 1) w3.heap.size A A := by
  have h1 := ((Tide.At.made w3 37 A).alloc (.cells A 37)).drew
  have h2 := (Tide.At.made (w3.alloc (.cells A 37)) 37 A).drew
  simp only [World.size_alloc] at h2
  have hb : Below w3.heap.size w3 (((w3.alloc (.cells A 37)).alloc (.cells A 37)).drew) := (((Below.refl _ _).alloc (Nat.le_refl _) _).alloc (by simp) _).drew
  exact ⟨⟨h1, h2, by omega, ⟨by omega, by omega⟩, hb⟩, ⟨h2, h1, by omega, ⟨by omega, by omega⟩, hb⟩⟩
theorem two_put {w0 w w' : World} {ga gb : Nat} {x0 x1 x2 x3 x4 x5 x6 u v u' v' : Value} (h : TwoAt w0 w w' ga gb #[x0, x1, x2, x3, x4, x5, x6] #[x0, x1, x2, x3, x4, x5, x6]) :
    TwoAt w0 w ((((w'.setCell ⟨ga, 4, none⟩ u).setCell ⟨ga, 6, none⟩ v).setCell ⟨gb, 2, none⟩ u').setCell ⟨gb, 5, none⟩ v') ga gb #[x0, x1, x2, x3, u, x5, v] #[x0, x1, u', x3, x4, v', x6] := by
  obtain ⟨h1, h2, h3, h4, h5⟩ := h
  refine ⟨((((h1.put 4 u).put 6 v).other (p := ⟨gb, 2, none⟩) h3 u').other (p := ⟨gb, 5, none⟩) h3 v'), ((((h2.other (p := ⟨ga, 4, none⟩) (Ne.symm h3) u).other (p := ⟨ga, 6, none⟩) (Ne.symm h3) v).put 2 u').put 5 v'), h3, h4, ?_⟩
  exact (((h5.setCell (p := ⟨ga, 4, none⟩) h4.1 u).setCell (p := ⟨ga, 6, none⟩) h4.1 v).setCell (p := ⟨gb, 2, none⟩) h4.2 u').setCell (p := ⟨gb, 5, none⟩) h4.2 v'

set_option maxRecDepth 100000 in
set_option maxHeartbeats 6400000 in
theorem cronOr_walk (c : Cr) (y mo d h mi s wk : Int) (w : World) (hf : c.fits) :
    Calls Try.prog 8 #[.agg c.cells, .agg #[.int .i64 y, .int .i64 mo, .int .i64 d, .int .i64 h, .int .i64 mi, .int .i64 s, .int .i64 wk]] w fun e w' => e = .returned (.bool true) ∧ Below w.heap.size w w' := by
  have HF := Lib.hid hf
  have HD := Lib.hid (dailyCr_fits (h := 6) (m := 30) (by omega) (by omega))
  have d1 : (dailyCr 6 30).match 1 1 6 30 0 = true := by decide +kernel
  have d2 : (dailyCr 6 30).err = 0 := by decide +kernel
  have HM := Lib.hid d1; have HE := Lib.hid d2
  clear hf d1 d2
  obtain ⟨ci, ch, cd, cm, cw, ad, aw⟩ := c
  unfold Cr.cells
  go_enter Try.func8, Try.ntmps8
  go_wp2_with fail
  refine (cronDaily 6 30 _ (by omega) (by omega)).mono ?_
  rintro e w1 ⟨rfl, hb1⟩
  go_wp2_with fail
  refine (cronMatch (dailyCr 6 30) HD.out 0 1 1 6 30 0 0 _).mono ?_
  rintro e w2 ⟨rfl, hb2⟩
  rw [HM.out, HE.out]
  clear HM HE HD
  have hb : Below ((w.alloc (.cells #[.int .u64 ci, .int .u64 ch, .int .u64 cd, .int .u64 cm, .int .u64 cw, .bool ad, .bool aw] 37)).alloc (.cells #[.int .i64 y, .int .i64 mo, .int .i64 d, .int .i64 h, .int .i64 mi, .int .i64 s, .int .i64 wk] 39)).heap.size _ _ := hb1.trans (hb2.mono hb1.size)
  have hA : Tide.At w2 w.heap.size 37 #[.int .u64 ci, .int .u64 ch, .int .u64 cd, .int .u64 cm, .int .u64 cw, .bool ad, .bool aw] := ((Tide.At.made w _ _).alloc _).below hb (by simp; omega)
  have hC : Tide.At w2 (w.heap.size + 1) 39 #[.int .i64 y, .int .i64 mo, .int .i64 d, .int .i64 h, .int .i64 mi, .int .i64 s, .int .i64 wk] := by
    have := Tide.At.made (w.alloc (.cells #[.int .u64 ci, .int .u64 ch, .int .u64 cd, .int .u64 cm, .int .u64 cw, .bool ad, .bool aw] 37)) 39 #[.int .i64 y, .int .i64 mo, .int .i64 d, .int .i64 h, .int .i64 mi, .int .i64 s, .int .i64 wk]
    simp only [World.size_alloc] at this
    exact this.below hb (by simp)
  have hB2 : Below w.heap.size w w2 := (((Below.refl _ _).alloc (Nat.le_refl _) _).alloc (by simp) _).trans (hb.mono (by simp; omega))
  clear hb1 hb2 hb
  have a0 := hA.here (i := 0) rfl; have a1 := hA.here (i := 1) rfl; have a2 := hA.here (i := 2) rfl; have a3 := hA.here (i := 3) rfl; have a4 := hA.here (i := 4) rfl; have a5 := hA.here (i := 5) rfl; have a6 := hA.here (i := 6) rfl
  have c0 := hC.here (i := 0) rfl; have c1 := hC.here (i := 1) rfl; have c2 := hC.here (i := 2) rfl; have c3 := hC.here (i := 3) rfl; have c4 := hC.here (i := 4) rfl; have c5 := hC.here (i := 5) rfl; have c6 := hC.here (i := 6) rfl
  have HA := Lib.hid hA; have HC := Lib.hid hC
  clear hA hC
  go_wp2_with fail
  refine (cronMatch ⟨ci, ch, cd, cm, cw, ad, aw⟩ HF.out y mo d h mi s wk _).mono ?_
  rintro e w3 ⟨rfl, hb3⟩
  clear a0 a1 a2 a3 a4 a5 a6 c0 c1 c2 c3 c4 c5 c6
  have hB3 : Below w.heap.size w w3 := hB2.trans (hb3.mono hB2.size)
  have HA3 := HA.out.below hb3 HA.out.inside
  have HC3 := HC.out.below hb3 HC.out.inside
  clear hb3 hB2 HA HC
  cases hok : Cr.ok ⟨ci, ch, cd, cm, cw, ad, aw⟩
  · rw [Cr.err_no hok]
    have hm : Cr.match ⟨ci, ch, cd, cm, cw, ad, aw⟩ mo d h mi wk = false := by simp [Cr.match, hok]
    rw [hm]
    clear hok hm
    go_wp2_with fail
    go_ret
    exact ⟨rfl, hB3⟩
  · rw [Cr.err_yes hok]
    have HOK := Lib.hid hok
    clear hok
    have a5 := HA3.here (i := 5) rfl
    have a6 := HA3.here (i := 6) rfl
    by_cases hany : ad = true ∨ aw = true
    · rcases hany with rfl | rfl
      · go_wp2_with fail
        go_ret
        exact ⟨rfl, hB3⟩
      · cases ad
        · go_wp2_with fail
          go_ret
          exact ⟨rfl, hB3⟩
        · go_wp2_with fail
          go_ret
          exact ⟨rfl, hB3⟩
    · obtain ⟨rfl, rfl⟩ : ad = false ∧ aw = false := by cases ad <;> cases aw <;> simp at hany ⊢
      clear hany
      have a0 := HA3.here (i := 0) rfl; have a1 := HA3.here (i := 1) rfl; have a2 := HA3.here (i := 2) rfl; have a3 := HA3.here (i := 3) rfl; have a4 := HA3.here (i := 4) rfl
      have z0 : w.heap.size < w3.heap.size := HA3.inside
      have z1 : w.heap.size < w3.heap.size + 1 := by omega
      go_upto_region 7 with fail
      go_cut [9, 10] (fun s9 s10 wx => ∃ ga gb : Nat, s9 = .pointer (some ⟨ga, 0, none⟩) ∧ s10 = .pointer (some ⟨gb, 0, none⟩) ∧ TwoAt w w3 wx ga gb #[.int .u64 ci, .int .u64 ch, .int .u64 cd, .int .u64 cm, .int .u64 cw, .bool false, .bool false] #[.int .u64 ci, .int .u64 ch, .int .u64 cd, .int .u64 cm, .int .u64 cw, .bool false, .bool false])
      case first =>
        go_region
        all_goals
          go_wp2_with fail
          go_meet
          first | exact ⟨_, _, rfl, rfl, (two_made w w3 _).1⟩ | exact ⟨_, _, rfl, rfl, (two_made w w3 _).2⟩
      case rest =>
        obtain ⟨ga, gb, rfl, rfl, hT⟩ := hcut
        have HT := Lib.hid hT
        clear a0 a1 a2 a3 a4 a5 a6 z0 z1
        have a4 := hT.one.here (i := 4) rfl; have a6 := hT.one.here (i := 6) rfl; have b2 := hT.two.here (i := 2) rfl; have b5 := hT.two.here (i := 5) rfl
        have f1 := hT.one.soft 4; have f2 := hT.one.soft 6; have f3 := hT.two.soft 2; have f4 := hT.two.soft 5
        have n1 := hT.apart; have n2 := Ne.symm hT.apart
        clear hT
        go_upto_region 10 with fail
        have hT := two_put HT.out (u := .int .u64 127) (v := .bool true) (u' := .int .u64 4294967294) (v' := .bool true)
        generalize ((((wc.setCell ⟨ga, 4, none⟩ (.int .u64 127)).setCell ⟨ga, 6, none⟩ (.bool true)).setCell ⟨gb, 2, none⟩ (.int .u64 4294967294)).setCell ⟨gb, 5, none⟩ (.bool true)) = wd at hT ⊢
        clear a4 a6 b2 b5 f1 f2 f3 f4 n1 n2 HT
        have HT := Lib.hid hT
        · skip
          have HC4 := HC3.below hT.below HC3.inside
          have c0 := HC4.here (i := 0) rfl; have c1 := HC4.here (i := 1) rfl; have c2 := HC4.here (i := 2) rfl; have c3 := HC4.here (i := 3) rfl; have c4 := HC4.here (i := 4) rfl; have c5 := HC4.here (i := 5) rfl; have c6 := HC4.here (i := 6) rfl
          have hbw : Below w.heap.size w _ := hB3.trans (hT.below.mono hB3.size)
          by_cases hin : (0 ≤ wk ∧ wk ≤ 6) ∧ (1 ≤ d ∧ d ≤ 31)
          · obtain ⟨⟨k0, k1⟩, k2, k3⟩ := hin
            have HEI := Lib.hid (Cr.either ⟨ci, ch, cd, cm, cw, false, false⟩ mo d h mi wk HOK.out rfl rfl k2 k3 k0 k1)
            have a0 := hT.one.here (i := 0) rfl; have a1 := hT.one.here (i := 1) rfl; have a2 := hT.one.here (i := 2) rfl; have a3 := hT.one.here (i := 3) rfl; have a4 := hT.one.here (i := 4) rfl; have a5 := hT.one.here (i := 5) rfl; have a6 := hT.one.here (i := 6) rfl
            clear hT
            go_wp2_with fail
            refine (cronMatch ⟨ci, ch, cd, cm, 127, false, true⟩ ⟨HF.out.1, HF.out.2.1, HF.out.2.2.1, HF.out.2.2.2.1, by show (127 : Nat) < _; omega⟩ y mo d h mi s wk _).mono ?_
            rintro e w5 ⟨rfl, hb5⟩
            rw [Cr.err_yes HEI.out.1]
            have HT5 := HT.out.two.below hb5 HT.out.two.inside
            have HC5 := HC4.below hb5 HC4.inside
            clear a0 a1 a2 a3 a4 a5 a6 c0 c1 c2 c3 c4 c5 c6
            have c0 := HC5.here (i := 0) rfl; have c1 := HC5.here (i := 1) rfl; have c2 := HC5.here (i := 2) rfl; have c3 := HC5.here (i := 3) rfl; have c4 := HC5.here (i := 4) rfl; have c5 := HC5.here (i := 5) rfl; have c6 := HC5.here (i := 6) rfl
            have a0 := HT5.here (i := 0) rfl; have a1 := HT5.here (i := 1) rfl; have a2 := HT5.here (i := 2) rfl; have a3 := HT5.here (i := 3) rfl; have a4 := HT5.here (i := 4) rfl; have a5 := HT5.here (i := 5) rfl; have a6 := HT5.here (i := 6) rfl
            have hbw5 := hbw.trans (hb5.mono hbw.size)
            clear hb5 HC4 HC5 HT5 HC3 HA3
            go_wp2_with fail
            refine (cronMatch ⟨ci, ch, 4294967294, cm, cw, true, false⟩ ⟨HF.out.1, HF.out.2.1, by show (4294967294 : Nat) < _; omega, HF.out.2.2.2.1, HF.out.2.2.2.2⟩ y mo d h mi s wk _).mono ?_
            rintro e w6 ⟨rfl, hb6⟩
            rw [Cr.err_yes HEI.out.2.1]
            have hbw6 := hbw5.trans (hb6.mono hbw5.size)
            have hfin : Cr.match ⟨ci, ch, cd, cm, cw, false, false⟩ mo d h mi wk = (Cr.match ⟨ci, ch, cd, cm, 127, false, true⟩ mo d h mi wk || Cr.match ⟨ci, ch, 4294967294, cm, cw, true, false⟩ mo d h mi wk) := HEI.out.2.2
            clear a0 a1 a2 a3 a4 a5 a6 c0 c1 c2 c3 c4 c5 c6 hb6
            generalize Cr.match ⟨ci, ch, cd, cm, cw, false, false⟩ mo d h mi wk = r at hfin ⊢
            generalize Cr.match ⟨ci, ch, cd, cm, 127, false, true⟩ mo d h mi wk = r1 at hfin ⊢
            generalize Cr.match ⟨ci, ch, 4294967294, cm, cw, true, false⟩ mo d h mi wk = r2 at hfin ⊢
            subst hfin
            clear HEI HT HF HOK
            cases r1 <;> cases r2
            all_goals
              go_wp2_with fail
              go_ret
              exact ⟨rfl, hbw6⟩
          · clear hT HT HOK HF HC4 HC3 HA3
            by_cases g1 : wk < 0
            · go_wp2_with fail
              go_ret
              exact ⟨rfl, hbw⟩
            · by_cases g2 : 6 < wk
              · go_wp2_with fail
                go_ret
                exact ⟨rfl, hbw⟩
              · by_cases g3 : d < 1
                · go_wp2_with fail
                  go_ret
                  exact ⟨rfl, hbw⟩
                · have g4 : 31 < d := by omega
                  clear hin
                  go_wp2_with fail
                  go_ret
                  exact ⟨rfl, hbw⟩
end Go.Proofs.Ytfipfikinkhpmaa
