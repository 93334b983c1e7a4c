/- The walks of the laws on dates. -/
import Derived.Test.YtfipfikinkhpmaaCivU
namespace Go.Proofs.Ytfipfikinkhpmaa
open Go.RowKit
set_option linter.unusedVariables false

set_option maxHeartbeats 1600000 in
theorem civilSeconds_walk (y m d h mi s wk : Int) (sh : Int) (wsh : (Lit.int .i64 sh).wf = true) (w : World) :
    Calls Try.prog 10 #[.agg #[.int .i64 y, .int .i64 m, .int .i64 d, .int .i64 h, .int .i64 mi, .int .i64 s, .int .i64 wk], .int .i64 sh] w fun e w' => e = .returned (.bool true) ∧ Below w.heap.size w w' := by
  by_cases hb : okCivil y m d h mi s sh
  · go_enter Try.func10, Try.ntmps10
    go_wp2_with fail
    refine (civSeconds_yes _ _ _ _ _ _ _ _ _ hb).mono ?_
    rintro e w1 ⟨rfl, hb1⟩
    obtain ⟨hA, hz, hbw⟩ := one_at hb1
    clear hb1
    obtain ⟨i0, i1, i2, i3, i4, i5, i6, j0, j1, j2, j3, j4, j5, j6⟩ := At7 hA
    clear hA
    go_wp2_with fail
    refine (refSeconds_yes _ _ _ _ _ _ _ _ _ hb).mono ?_
    rintro e w2 ⟨rfl, hb2⟩
    have hbb := hbw.trans (hb2.mono (by omega))
    clear hb2 hbw i0 i1 i2 i3 i4 i5 i6 j0 j1 j2 j3 j4 j5 j6
    go_wp2_with fail
    go_ret
    exact ⟨rfl, hbb⟩
  · go_enter Try.func10, Try.ntmps10
    go_wp2_with fail
    refine (civSeconds_no _ _ _ _ _ _ _ _ _ hb).mono ?_
    rintro e w1 ⟨rfl, hb1⟩
    obtain ⟨hA, hz, hbw⟩ := one_at hb1
    clear hb1
    obtain ⟨i0, i1, i2, i3, i4, i5, i6, j0, j1, j2, j3, j4, j5, j6⟩ := At7 hA
    clear hA
    go_wp2_with fail
    refine (refSeconds_no _ _ _ _ _ _ _ _ _ hb).mono ?_
    rintro e w2 ⟨rfl, hb2⟩
    have hbb := hbw.trans (hb2.mono (by omega))
    clear hb2 hbw i0 i1 i2 i3 i4 i5 i6 j0 j1 j2 j3 j4 j5 j6
    go_wp2_with fail
    go_ret
    exact ⟨rfl, hbb⟩

/-! the sums of CivilYears -/
theorem okDate_mk {y m d : Int} (h0 : -4000 ≤ y) (h1 : y ≤ 8000) (m0 : 1 ≤ m) (m1 : m ≤ 12) (d0 : 1 ≤ d) (d1 : d ≤ 28) : okDate y m d :=
  ⟨h0, h1, m0, m1, d0, by have := Tide.long_lo y m; omega⟩
theorem year_sum (y : Int) : Tide.dayno (y + 1) 1 1 - Tide.dayno y 1 1 = 365 ∨ Tide.dayno (y + 1) 1 1 - Tide.dayno y 1 1 = 366 := by
  have h := Tide.years_succ y
  unfold Tide.dayno
  rw [Tide.cum_one, Tide.cum_one]
  by_cases hl : Tide.leap y
  · rw [if_pos hl] at h; omega
  · rw [if_neg hl] at h; omega
theorem era_sum (y : Int) : Tide.dayno (y + 400) 1 1 - Tide.dayno y 1 1 = 146097 := by
  have h := Tide.years_era y 1
  rw [show y + 1 * 400 = y + 400 by omega] at h
  unfold Tide.dayno
  rw [Tide.cum_one, Tide.cum_one]
  omega
theorem month_sum {y m : Int} (h1 : 1 ≤ m) (h2 : m ≤ 12) : 1 ≤ Tide.dayno (y + m / 12) (m % 12 + 1) 1 - Tide.dayno y m 28 ∧ Tide.dayno (y + m / 12) (m % 12 + 1) 1 - Tide.dayno y m 28 ≤ 4 := by
  have a := Tide.long_lo y m
  have b := Tide.long_hi y m
  rcases Int.lt_or_le m 12 with hm | hm
  · rw [show y + m / 12 = y by omega, show m % 12 + 1 = m + 1 by omega]
    have h := Tide.cum_succ y m h1 hm
    unfold Tide.dayno
    omega
  · obtain rfl : m = 12 := by omega
    have h := Tide.cum_year y
    have k := Tide.years_succ y
    show 1 ≤ Tide.dayno (y + 1) 1 1 - _ ∧ Tide.dayno (y + 1) 1 1 - _ ≤ 4
    unfold Tide.dayno
    rw [Tide.cum_one]
    omega

set_option maxHeartbeats 3200000 in
theorem civilYears_walk (a : Int) (wa : (Lit.int .i64 a).wf = true) (b : Int) (wb : (Lit.int .i64 b).wf = true) (w : World) :
    Calls Try.prog 7 #[.int .i64 a, .int .i64 b] w fun e w' => e = .returned (.bool true) ∧ Below w.heap.size w w' := by
  have k1 : Hid (Tide.dayno 1970 1 1 = 0) := by show _ = _; decide
  have k2 : Hid (Tide.dayno 2000 3 1 = 11017) := by show _ = _; decide
  have y0 : 0 ≤ rest a 7000 := Int.emod_nonneg _ (by omega)
  have y1 : rest a 7000 < 7000 := Int.emod_lt_of_pos _ (by omega)
  have m0 : 0 ≤ rest b 12 := Int.emod_nonneg _ (by omega)
  have m1 : rest b 12 < 12 := Int.emod_lt_of_pos _ (by omega)
  generalize hx : rest a 7000 = x at *
  generalize hz : rest b 12 = z at *
  have HX := Lib.hid hx; have HZ := Lib.hid hz
  clear hx hz
  have e1 := year_sum (x - 3000)
  have e2 := era_sum (x - 3000)
  obtain ⟨e3, e4⟩ := month_sum (y := x - 3000) (m := z + 1) (by omega) (by omega)
  have b1 := dayno_bd (okDate_mk (y := x - 3000) (m := 1) (d := 1) (by omega) (by omega) (by omega) (by omega) (by omega) (by omega))
  have b2 := dayno_bd (okDate_mk (y := x - 3000 + 1) (m := 1) (d := 1) (by omega) (by omega) (by omega) (by omega) (by omega) (by omega))
  have b3 := dayno_bd (okDate_mk (y := x - 3000 + 400) (m := 1) (d := 1) (by omega) (by omega) (by omega) (by omega) (by omega) (by omega))
  have b4 := dayno_bd (okDate_mk (y := x - 3000) (m := z + 1) (d := 28) (by omega) (by omega) (by omega) (by omega) (by omega) (by omega))
  have b5 := dayno_bd (okDate_mk (y := x - 3000 + (z + 1) / 12) (m := (z + 1) % 12 + 1) (d := 1) (by omega) (by omega) (by omega) (by omega) (by omega) (by omega))
  obtain ⟨A, hA⟩ : ∃ A, Tide.dayno (x - 3000) 1 1 = A := ⟨_, rfl⟩
  obtain ⟨B, hB⟩ : ∃ B, Tide.dayno (x - 3000 + 1) 1 1 = B := ⟨_, rfl⟩
  obtain ⟨C, hC⟩ : ∃ C, Tide.dayno (x - 3000 + 400) 1 1 = C := ⟨_, rfl⟩
  obtain ⟨D, hD⟩ : ∃ D, Tide.dayno (x - 3000) (z + 1) 28 = D := ⟨_, rfl⟩
  obtain ⟨E, hE⟩ : ∃ E, Tide.dayno (x - 3000 + (z + 1) / 12) ((z + 1) % 12 + 1) 1 = E := ⟨_, rfl⟩
  rw [hA, hB] at e1
  rw [hA, hC] at e2
  rw [hD, hE] at e3 e4
  rw [hA] at b1
  rw [hB] at b2
  rw [hC] at b3
  rw [hD] at b4
  rw [hE] at b5
  obtain ⟨c1, c1'⟩ := b1
  obtain ⟨c2, c2'⟩ := b2
  obtain ⟨c3, c3'⟩ := b3
  obtain ⟨c4, c4'⟩ := b4
  obtain ⟨c5, c5'⟩ := b5
  have t2 : (C - A == 146097) = true := by simp; omega
  have HA := Lib.hid hA; have HB := Lib.hid hB; have HC := Lib.hid hC; have HD := Lib.hid hD; have HE := Lib.hid hE
  clear hA hB hC hD hE e2
  rcases e1 with e1 | e1
  all_goals
    have t1 := Lib.hid e1
    have t1' : (B - A == 365) = decide (B - A = 365) := rfl
    first
      | (have t3 : (B - A == 365) = true := by simp; omega)
      | (have t3 : (B - A == 365) = false := by simp; omega)
    have t4 := Lib.hid e1
    first
      | (have t5 : (B - A == 366) = true := by simp; omega)
      | (have t5 : (B - A == 366) = false := by simp; omega)
    clear e1 t1'
    go_enter Try.func7, Try.ntmps7
    go_wp2_with fail
    refine (civDays_yes 1970 1 1 _ (by decide)).mono ?_
    rw [k1.out]
    rintro e w' ⟨rfl, rfl⟩
    go_wp2_with fail
    refine (civDays_yes 2000 3 1 _ (by decide)).mono ?_
    rw [k2.out]
    rintro e w' ⟨rfl, rfl⟩
    go_wp2_with fail
    refine (refRest _ _ _ (by omega) (by omega)).mono ?_
    rw [HX.out]
    rintro e w' ⟨rfl, rfl⟩
    go_wp2_with fail
    refine (refRest _ _ _ (by omega) (by omega)).mono ?_
    rw [HZ.out]
    rintro e w' ⟨rfl, rfl⟩
    go_wp2_with fail
    refine (civDays_yes (x - 3000) 1 1 _ (okDate_mk (by omega) (by omega) (by omega) (by omega) (by omega) (by omega))).mono ?_
    rw [HA.out]
    rintro e w' ⟨rfl, rfl⟩
    go_wp2_with fail
    refine (civDays_yes (x - 3000 + 1) 1 1 _ (okDate_mk (by omega) (by omega) (by omega) (by omega) (by omega) (by omega))).mono ?_
    rw [HB.out]
    rintro e w' ⟨rfl, rfl⟩
    go_wp2_with fail
    refine (civDays_yes (x - 3000 + 400) 1 1 _ (okDate_mk (by omega) (by omega) (by omega) (by omega) (by omega) (by omega))).mono ?_
    rw [HC.out]
    rintro e w' ⟨rfl, rfl⟩
    go_wp2_with fail
    refine (civDays_yes (x - 3000) (z + 1) 28 _ (okDate_mk (by omega) (by omega) (by omega) (by omega) (by omega) (by omega))).mono ?_
    rw [HD.out]
    rintro e w' ⟨rfl, rfl⟩
    go_wp2_with fail
    refine (civDays_yes (x - 3000 + (z + 1) / 12) ((z + 1) % 12 + 1) 1 _ (okDate_mk (by omega) (by omega) (by omega) (by omega) (by omega) (by omega))).mono ?_
    rw [HE.out]
    rintro e w' ⟨rfl, rfl⟩
    go_wp2_with fail
    go_ret
    exact ⟨rfl, Below.refl _ _⟩
end Go.Proofs.Ytfipfikinkhpmaa
