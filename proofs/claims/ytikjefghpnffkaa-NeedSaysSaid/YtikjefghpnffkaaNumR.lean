/- The contracts of the reference's numbers (Mul digit by digit, Ceil, Share). -/
import Derived.Test.YtikjefghpnffkaaNumC
namespace Go.Proofs.Ytikjefghpnffkaa
open Go.RowKit

set_option maxHeartbeats 400000 in
theorem refCeil (a b : Int) (w : World) (h : 1 ≤ b) : Calls Try.prog 48 #[.int .i64 a, .int .i64 b] w fun e w' => e = .returned (.int .i64 (Tide.ceilc a b)) ∧ w = w' := by
  have a0 := Tide.clip_lo a; have a1 := Tide.clip_hi a; have b0 := Tide.clip_one h; have b1 := Tide.clip_hi b
  have c0 := Tide.ceil_lo a h; have c1 := Tide.ceil_hi a h
  obtain ⟨d0, d1⟩ := tdiv_bd (Tide.clip a) (Tide.clip b) (by omega) (by omega) (by omega)
  obtain ⟨t0, t1⟩ := Tide.ceil_tdiv a h
  go_enter Try.func48, Try.ntmps48
  go_wp2_with (first | (go_at_call 53; refine (refClip _ _).mono ?_; rintro e w' ⟨rfl, rfl⟩))
  go_loop [5] (fun t => ∃ n : Int, Tide.ceilc a b - 1 ≤ n ∧ n ≤ Tide.ceilc a b ∧ t = .int .i64 n) (fun t => (Tide.ceilc a b - intOf t).toNat)
  case atStart => exact ⟨_, t0, t1, rfl⟩
  case round =>
    obtain ⟨n, n0, n1, rfl⟩ := hrel
    obtain ⟨m0, m1, m2, m3⟩ := Tide.ceil_near a h n0 n1
    clear t0 t1 d0 d1
    by_cases hlt : n * Tide.clip b < Tide.clip a
    · have hn := m2 hlt
      clear m2 m3
      go_wp2
      go_round
      case rel => exact ⟨n + 1, by omega, by omega, by go_num⟩
      case measure => simp [intOf]; omega
    · have hn := Lib.hid (m3 (by omega))
      clear m2 m3
      go_wp2
      go_ret
      exact ⟨ret_int hn.out, rfl⟩

set_option maxHeartbeats 1600000 in
theorem refMul (a b : Int) (w : World) : Calls Try.prog 52 #[.int .i64 a, .int .i64 b] w fun e w' => e = .returned (.int .i64 (Tide.mulc a b)) ∧ w = w' := by
  have a0 := Tide.clip_lo a; have a1 := Tide.clip_hi a; have b0 := Tide.clip_lo b; have b1 := Tide.clip_hi b
  have hm : Hid (Tide.mulc a b = Tide.clip (Tide.clip a * Tide.clip b)) := rfl
  rcases Tide.sign_cases (Tide.clip a) with ⟨sa, A, hA, hA0⟩ | ⟨sa, A, hA, hA0⟩ <;> rcases Tide.sign_cases (Tide.clip b) with ⟨sb, B, hB, hB0⟩ | ⟨sb, B, hB, hB0⟩
  all_goals
    have A1 : A ≤ 1000000000000000 := by omega
    have B1 : B ≤ 1000000000000000 := by omega
    have dA : decide (A < 0) = false := decide_eq_false (by omega)
    have dB : decide (B < 0) = false := decide_eq_false (by omega)
    have HA := Lib.hid hA
    have HB := Lib.hid hB
    have hst := Lib.hid (Tide.mulAt_start A hB0 B1)
    go_enter Try.func52, Try.ntmps52
    go_wp2_with (first | (go_at_call 53; refine (refClip _ _).mono ?_; rintro e w' ⟨rfl, rfl⟩))
    go_loop [6, 7] (fun n p => ∃ x y : Int, Hid (Tide.mulAt A B y x) ∧ n = .int .i64 x ∧ p = .int .i64 y) (fun _ p => (intOf p).toNat)
    case atStart => exact ⟨_, _, hst, rfl, rfl⟩
    case round =>
      obtain ⟨x, y, hxy, rfl, rfl⟩ := hrel
      obtain ⟨x0, x1⟩ := Tide.mulAt_bd hxy.out
      clear hst
      rcases hxy.out with ⟨hy, hx⟩ | ⟨rfl, hx⟩
      · obtain ⟨y0, y1⟩ := Tide.tens_bd hy
        have HX := Lib.hid hx
        have HY := Lib.hid hy
        have q0 : 0 ≤ B / y := Int.ediv_nonneg hB0 (by omega)
        have q1 : B / y ≤ B := Int.ediv_le_self _ hB0
        clear hxy hx hy hA hB
        go_wp2_with (first | (go_at_call 53; refine (refClip _ _).mono ?_; rintro e w' ⟨rfl, rfl⟩))
        have hin : Hid (Tide.clip (x * 10) = Tide.clip (A * (B / y / 10 * 10 + 0))) := by
          rw [Int.add_zero]; exact Tide.digit_step hA0 (by omega) HX.out
        go_loop [6, 8] (fun n k => ∃ z j : Int, 0 ≤ j ∧ j ≤ B / y % 10 ∧ -1000000000000000 ≤ z ∧ z ≤ 1000000000000000 ∧ Hid (z = Tide.clip (A * (B / y / 10 * 10 + j))) ∧ n = .int .i64 z ∧ k = .int .i64 j) (fun _ k => (B / y % 10 - intOf k).toNat)
        case atStart => exact ⟨_, 0, by omega, by omega, Tide.clip_lo _, Tide.clip_hi _, hin, rfl, rfl⟩
        case round =>
          obtain ⟨z, j, j0, j1, z0, z1, hz, rfl, rfl⟩ := hrel
          clear hin
          by_cases hj : j < B / y % 10
          · have hnx : Hid (Tide.clip (z + A) = Tide.clip (A * (B / y / 10 * 10 + (j + 1)))) := by
              rw [← Int.add_assoc]; exact Tide.digit_add hA0 (by omega) hz.out
            go_wp2_with (first | (go_at_call 53; refine (refClip _ _).mono ?_; rintro e w' ⟨rfl, rfl⟩))
            go_round
            case rel => exact ⟨_, j + 1, by omega, by omega, Tide.clip_lo _, Tide.clip_hi _, hnx, rfl, by go_num⟩
            case measure => simp [intOf]; omega
          · have hnx : Hid (Tide.mulAt A B (y / 10) z) := Tide.mulAt_next HY.out (by rw [hz.out]; congr 2; omega)
            go_wp2
            go_round
            case rel => exact ⟨_, _, hnx, rfl, rfl⟩
            case measure => simp [intOf]; omega
      · go_wp2
        go_ret
        refine ⟨ret_int ?_, rfl⟩
        have ea := HA.out
        have eb := HB.out
        rw [hm.out]
        first
          | (rw [show Tide.clip a = -A by omega, show Tide.clip b = -B by omega, Int.neg_mul_neg])
          | (rw [show Tide.clip a = -A by omega, show Tide.clip b = B by omega, Int.neg_mul, Tide.clip_neg])
          | (rw [show Tide.clip a = A by omega, show Tide.clip b = -B by omega, Int.mul_neg, Tide.clip_neg])
          | (rw [show Tide.clip a = A by omega, show Tide.clip b = B by omega])

set_option maxHeartbeats 800000 in
theorem refShare (a m : Int) (w : World) : Calls Try.prog 54 #[.int .i64 a, .int .i64 m] w fun e w' => e = .returned (.int .i64 (Tide.sharec a m)) ∧ w = w' := by
  obtain ⟨x, hx⟩ : ∃ x, (if Tide.clip a < 0 then 0 else Tide.clip a) = x := ⟨_, rfl⟩
  obtain ⟨y, hy⟩ : ∃ y, (if Tide.clip m < 0 then 0 else Tide.clip m) = y := ⟨_, rfl⟩
  have ex : Tide.pos a = x := by rw [← Tide.pos_eq]; omega
  have ey : Tide.pos m = y := by rw [← Tide.pos_eq]; omega
  have x0 : 0 ≤ x := by omega
  have y0 : 0 ≤ y := by omega
  have a1 := Tide.clip_hi a; have m1 := Tide.clip_hi m
  have x1 : x ≤ 1000000000000000 := by omega
  have y1 : y ≤ 1000000000000000 := by omega
  have h0 : 0 ≤ x % 1000 * (y % 1000) := Int.mul_nonneg (by omega) (by omega)
  have h1 : x % 1000 * (y % 1000) ≤ 1000 * 1000 := Int.mul_le_mul (by omega) (by omega) (by omega) (by omega)
  have k0 := Tide.clip_lo (Tide.clip (x / 1000) * Tide.clip y); have k1 := Tide.clip_hi (Tide.clip (x / 1000) * Tide.clip y)
  have l0 := Tide.clip_lo (Tide.clip (x % 1000) * Tide.clip (y / 1000)); have l1 := Tide.clip_hi (Tide.clip (x % 1000) * Tide.clip (y / 1000))
  change -1000000000000000 ≤ Tide.mulc (x / 1000) y at k0
  change Tide.mulc (x / 1000) y ≤ 1000000000000000 at k1
  change -1000000000000000 ≤ Tide.mulc (x % 1000) (y / 1000) at l0
  change Tide.mulc (x % 1000) (y / 1000) ≤ 1000000000000000 at l1
  have c0 := Tide.clip_lo (Tide.mulc (x / 1000) y + Tide.mulc (x % 1000) (y / 1000)); have c1 := Tide.clip_hi (Tide.mulc (x / 1000) y + Tide.mulc (x % 1000) (y / 1000))
  have hs : Hid (Tide.sharec a m = Tide.clip (Tide.clip (Tide.mulc (x / 1000) y + Tide.mulc (x % 1000) (y / 1000)) + x % 1000 * (y % 1000) / 1000)) := by
    unfold Tide.sharec Hid
    rw [ex, ey, Tide.share_eq _ _ x0 y0 x1 y1]
  clear ex ey
  go_enter Try.func54, Try.ntmps54
  go_wp2_with (first | (go_at_call 53; refine (refClip _ _).mono ?_; rintro e w' ⟨rfl, rfl⟩) | (go_at_call 52; refine (refMul _ _ _).mono ?_; rintro e w' ⟨rfl, rfl⟩))
  go_ret
  exact ⟨ret_int hs.out.symm, rfl⟩
end Go.Proofs.Ytikjefghpnffkaa
