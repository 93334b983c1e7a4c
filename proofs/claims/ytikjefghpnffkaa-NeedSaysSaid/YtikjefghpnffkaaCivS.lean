/- The contracts of the reference's Days, Date, Of and Seconds. -/
import Derived.Test.YtikjefghpnffkaaCivR
namespace Go.Proofs.Ytikjefghpnffkaa
open Go.RowKit
set_option linter.unusedVariables false

theorem bfold {B : Nat} {a b c : World} (h : Below B a b) (k : Below b.heap.size b c) (hB : B ≤ b.heap.size) : Below B a c := h.trans (k.mono hB)

theorem years_bd {y : Int} (h0 : -20000 ≤ y) (h1 : y ≤ 20000) : -8000000 ≤ Tide.years y ∧ Tide.years y ≤ 8000000 := by unfold Tide.years; omega

theorem above {y n : Int} (h : n < Tide.years y - Tide.years 1970) : Tide.yrOf n < y := by
  have := Tide.yrOf_hi (n := n) (y := y - 1) (by rw [show y - 1 + 1 = y by omega]; exact h)
  omega
theorem month_end {n m : Int} (h1 : 1 ≤ m) (h2 : m ≤ 12) (h : Tide.long (Tide.yrOf n) m ≤ n - (Tide.years (Tide.yrOf n) - Tide.years 1970) - Tide.cum (Tide.yrOf n) m) : m < 12 := by
  rcases Int.lt_or_le m 12 with hlt | hge
  · exact hlt
  · obtain rfl : m = 12 := by omega
    have k := Tide.cum_year (Tide.yrOf n)
    have hv := Tide.date_valid n; have hd := Tide.date_dayno n
    obtain ⟨a1, a2, a3, a4⟩ := hv
    have c1 := Tide.cum_bd (Tide.yrOf n) (Tide.moOf n) a1 a2
    unfold Tide.dayno at hd
    omega
theorem month_is {n m : Int} (h1 : 1 ≤ m) (h2 : m ≤ 12) (h0 : 0 ≤ n - (Tide.years (Tide.yrOf n) - Tide.years 1970) - Tide.cum (Tide.yrOf n) m)
    (h : n - (Tide.years (Tide.yrOf n) - Tide.years 1970) - Tide.cum (Tide.yrOf n) m < Tide.long (Tide.yrOf n) m) :
    m = Tide.moOf n ∧ n - (Tide.years (Tide.yrOf n) - Tide.years 1970) - Tide.cum (Tide.yrOf n) m + 1 = Tide.dyOf n := by
  have k := Tide.date_uniq (n := n) (y := Tide.yrOf n) (m := m) (d := n - (Tide.years (Tide.yrOf n) - Tide.years 1970) - Tide.cum (Tide.yrOf n) m + 1) ⟨h1, h2, by omega, by omega⟩ (by unfold Tide.dayno; omega)
  exact ⟨k.2.1, k.2.2⟩
theorem year_start (n : Int) : 0 ≤ n - (Tide.years (Tide.yrOf n) - Tide.years 1970) ∧ n - (Tide.years (Tide.yrOf n) - Tide.years 1970) ≤ 366 := by
  have hv := Tide.date_valid n; have hd := Tide.date_dayno n
  obtain ⟨a1, a2, a3, a4⟩ := hv
  have c1 := Tide.cum_bd (Tide.yrOf n) (Tide.moOf n) a1 a2
  have u2 : (if Tide.leap (Tide.yrOf n) then (1 : Int) else 0) ≤ 1 := by split <;> omega
  unfold Tide.dayno at hd
  omega

set_option maxHeartbeats 3200000 in
theorem refDate (n : Int) (w : World) (n0 : -4000000 ≤ n) (n1 : n ≤ 4000000) : Calls Try.prog 36 #[.int .i64 n] w fun e w' => e = .returned (.tuple #[.int .i64 (Tide.yrOf n), .int .i64 (Tide.moOf n), .int .i64 (Tide.dyOf n)]) ∧ Below w.heap.size w w' := by
  have e1 : Tide.years 1970 = 719528 := Tide.years_1970
  have r0 := Tide.yrOf_lo (n := n) (y := -13000) (by rw [e1]; unfold Tide.years; omega)
  have r1 := Tide.yrOf_hi (n := n) (y := 13000) (by rw [e1]; unfold Tide.years; omega)
  have q0 : -11000 ≤ n.tdiv 366 ∧ n.tdiv 366 ≤ 11000 := by
    rw [tdiv_eq_if]; split <;> omega
  obtain ⟨q0, q1⟩ := q0
  obtain ⟨b2, b3⟩ := years_bd (y := 1970) (by omega) (by omega)
  obtain ⟨s0, s1⟩ := year_start n
  have hlo : Hid (∀ y, Tide.years y - Tide.years 1970 ≤ n → y ≤ Tide.yrOf n) := fun y h => Tide.yrOf_lo h
  have hup : Hid (∀ y, n < Tide.years y - Tide.years 1970 → Tide.yrOf n < y) := fun y h => above h
  have hc1 : Hid (Tide.cum (Tide.yrOf n) 1 = 0) := Tide.cum_one _
  clear e1
  go_enter Try.func36, Try.ntmps36
  go_wp2_with fail
  go_loopw [2] (fun a wr => ∃ y : Int, -14000 ≤ y ∧ y ≤ 14000 ∧ a = .int .i64 y ∧ Below w.heap.size w wr) (fun a _ => (intOf a + 20000).toNat)
  case atStart => exact ⟨_, by omega, by omega, rfl, Below.refl _ _⟩
  case round =>
    obtain ⟨y, y0, y1, rfl, hbw⟩ := hrel
    obtain ⟨b0, b1⟩ := years_bd (y := y) (by omega) (by omega)
    go_wp2_with fail
    refine (refYears _ _ (by omega) (by omega)).mono ?_
    rintro e w1 ⟨rfl, hb1⟩
    go_wp2_with fail
    refine (refYears _ _ (by omega) (by omega)).mono ?_
    rintro e w2 ⟨rfl, hb2⟩
    have hb : Below w.heap.size w w2 := (hbw.trans (hb1.mono hbw.size)).trans (hb2.mono (Nat.le_trans hbw.size hb1.size))
    clear hb1 hb2 hbw
    by_cases hlt : n < Tide.years y - Tide.years 1970
    · have hu := hup.out y hlt
      go_wp2_with fail
      go_roundw
      case rel => exact ⟨y - 1, by omega, by omega, by go_num, hb⟩
      case measure => simp [intOf]; omega
    · have hl := hlo.out y (by omega)
      go_wp2_with fail
      clear hlt b0 b1
      go_loopw [2] (fun a wr => ∃ y : Int, -15000 ≤ y ∧ y ≤ Tide.yrOf n ∧ a = .int .i64 y ∧ Below w.heap.size w wr) (fun a _ => (Tide.yrOf n - intOf a).toNat)
      case atStart => exact ⟨_, by omega, hl, rfl, hb⟩
      case round =>
        clear hl y1 y0
        obtain ⟨z, z0, z1, rfl, hbw⟩ := hrel
        obtain ⟨b0, b1⟩ := years_bd (y := z + 1) (by omega) (by omega)
        go_wp2_with fail
        refine (refYears _ _ (by omega) (by omega)).mono ?_
        rintro e w3 ⟨rfl, hb3⟩
        go_wp2_with fail
        refine (refYears _ _ (by omega) (by omega)).mono ?_
        rintro e w4 ⟨rfl, hb4⟩
        have hb' : Below w.heap.size w w4 := (hbw.trans (hb3.mono hbw.size)).trans (hb4.mono (Nat.le_trans hbw.size hb3.size))
        clear hb3 hb4 hbw
        by_cases hlt : Tide.years (z + 1) - Tide.years 1970 ≤ n
        · have hu := hlo.out (z + 1) hlt
          go_wp2_with fail
          go_roundw
          case rel => exact ⟨z + 1, by omega, by omega, by go_num, hb'⟩
          case measure => simp [intOf]; omega
        · have hu := hup.out (z + 1) (by omega)
          obtain rfl : z = Tide.yrOf n := by omega
          go_wp2_with fail
          clear hlt b0 b1 z0 z1 hu
          refine (refYears _ _ (by omega) (by omega)).mono ?_
          rintro e w5 ⟨rfl, hb5⟩
          go_wp2_with fail
          refine (refYears _ _ (by omega) (by omega)).mono ?_
          rintro e w6 ⟨rfl, hb6⟩
          have hb2 : Below w.heap.size w w6 := (hb'.trans (hb5.mono hb'.size)).trans (hb6.mono (Nat.le_trans hb'.size hb5.size))
          clear hb5 hb6 hb' hb
          obtain ⟨b0, b1⟩ := years_bd (y := Tide.yrOf n) (by omega) (by omega)
          go_wp2_with fail
          go_loop [0, 3] (fun a i => ∃ m : Int, 1 ≤ m ∧ m ≤ 12 ∧ 0 ≤ n - (Tide.years (Tide.yrOf n) - Tide.years 1970) - Tide.cum (Tide.yrOf n) m ∧ i = .int .i64 m ∧ a = .int .i64 (n - (Tide.years (Tide.yrOf n) - Tide.years 1970) - Tide.cum (Tide.yrOf n) m)) (fun _ i => (12 - intOf i).toNat)
          case atStart => exact ⟨1, by omega, by omega, by rw [hc1.out]; omega, rfl, by rw [hc1.out]; go_num⟩
          case round =>
            obtain ⟨m, m0, m1, g0, rfl, rfl⟩ := hrel
            obtain ⟨u0, u1⟩ := Tide.cum_bd (Tide.yrOf n) m m0 m1
            clear u1
            have u4 := Tide.long_hi (Tide.yrOf n) m
            have u5 := Tide.long_lo (Tide.yrOf n) m
            go_wp2_with fail
            refine (refLong _ _ _ m0 m1).mono ?_
            rintro e w7 ⟨rfl, rfl⟩
            by_cases hlt : Tide.long (Tide.yrOf n) m ≤ n - (Tide.years (Tide.yrOf n) - Tide.years 1970) - Tide.cum (Tide.yrOf n) m
            · have hm := month_end m0 m1 hlt
              have hs := Lib.hid (Tide.cum_succ (Tide.yrOf n) m m0 hm)
              go_wp2_with fail
              refine (refLong _ _ _ m0 m1).mono ?_
              rintro e w7 ⟨rfl, rfl⟩
              go_wp2_with fail
              go_round
              case rel => exact ⟨m + 1, by omega, by omega, by rw [hs.out]; omega, by go_num, by rw [hs.out]; go_num⟩
              case measure => simp [intOf]; omega
            · obtain ⟨k1, k2⟩ := month_is m0 m1 g0 (by omega)
              have K1 := Lib.hid k1
              have K2 := Lib.hid k2
              clear k1 k2
              go_wp2_with fail
              go_ret3
              exact ⟨ret_int3 rfl K1.out K2.out, hb2⟩
end Go.Proofs.Ytikjefghpnffkaa
