/- The contracts of the reference's calendar. -/
import Derived.Test.YtikjefghpnffkaaCivE
namespace Go.Proofs.Ytikjefghpnffkaa
open Go.RowKit
set_option linter.unusedVariables false

set_option maxHeartbeats 400000 in
theorem refIn_yes (n lo hi : Int) (w : World) (h0 : lo ≤ n) (h1 : n ≤ hi) : Calls Try.prog 34 #[.int .i64 n, .int .i64 lo, .int .i64 hi] w fun e w' => e = .returned (.bool true) ∧ w = w' := by
  go_enter Try.func34, Try.ntmps34
  go_wp2
  go_ret
  exact ⟨rfl, rfl⟩
set_option maxHeartbeats 400000 in
theorem refIn_no (n lo hi : Int) (w : World) (h : n < lo ∨ hi < n) : Calls Try.prog 34 #[.int .i64 n, .int .i64 lo, .int .i64 hi] w fun e w' => e = .returned (.bool false) ∧ w = w' := by
  by_cases c : n < lo
  · clear h
    go_enter Try.func34, Try.ntmps34
    go_wp2
    go_ret
    exact ⟨rfl, rfl⟩
  · have h' : hi < n := by omega
    have c' : lo ≤ n := by omega
    have c'' : decide (n ≤ hi) = false := decide_eq_false (by omega)
    clear h c
    go_enter Try.func34, Try.ntmps34
    go_wp2
    go_ret
    exact ⟨rfl, rfl⟩
def inB (n lo hi : Int) : Bool := decide (lo ≤ n) && decide (n ≤ hi)
theorem inB_yes {n lo hi : Int} (h0 : lo ≤ n) (h1 : n ≤ hi) : inB n lo hi = true := by unfold inB; simp [h0, h1]
theorem inB_no {n lo hi : Int} (h : n < lo ∨ hi < n) : inB n lo hi = false := by unfold inB; simp; omega
theorem refIn (n lo hi : Int) (w : World) : Calls Try.prog 34 #[.int .i64 n, .int .i64 lo, .int .i64 hi] w fun e w' => e = .returned (.bool (inB n lo hi)) ∧ w = w' := by
  by_cases h : lo ≤ n ∧ n ≤ hi
  · rw [inB_yes h.1 h.2]; exact refIn_yes n lo hi w h.1 h.2
  · rw [inB_no (by omega)]; exact refIn_no n lo hi w (by omega)

set_option maxHeartbeats 400000 in
theorem refLeap_yes (y : Int) (w : World) (h : Tide.leap y) : Calls Try.prog 61 #[.int .i64 y] w fun e w' => e = .returned (.bool true) ∧ w = w' := by
  by_cases h400 : y % 400 = 0
  · have k400 : (y.tmod 400 == 0) = true := by rw [tmod_zero]; simp [h400]
    clear h h400
    go_enter Try.func61, Try.ntmps61
    go_wp2
    go_ret
    exact ⟨rfl, rfl⟩
  · have k400 : (y.tmod 400 == 0) = false := by rw [tmod_zero]; simp [h400]
    have h4 : (y.tmod 4 == 0) = true := by rw [tmod_zero]; unfold Tide.leap at h; simp; omega
    have k100 : (y.tmod 100 != 0) = true := by rw [tmod_zero_ne]; unfold Tide.leap at h; simp; omega
    clear h h400
    go_enter Try.func61, Try.ntmps61
    go_wp2
    go_ret
    exact ⟨rfl, rfl⟩
set_option maxHeartbeats 400000 in
theorem refLeap_no (y : Int) (w : World) (h : ¬ Tide.leap y) : Calls Try.prog 61 #[.int .i64 y] w fun e w' => e = .returned (.bool false) ∧ w = w' := by
  have k400 : (y.tmod 400 == 0) = false := by rw [tmod_zero]; unfold Tide.leap at h; simp; omega
  by_cases h4 : y % 4 = 0
  · have k4 : (y.tmod 4 == 0) = true := by rw [tmod_zero]; simp [h4]
    have k100 : (y.tmod 100 != 0) = false := by rw [tmod_zero_ne]; unfold Tide.leap at h; simp; omega
    clear h h4
    go_enter Try.func61, Try.ntmps61
    go_wp2
    go_ret
    exact ⟨rfl, rfl⟩
  · have k4 : (y.tmod 4 == 0) = false := by rw [tmod_zero]; simp [h4]
    clear h h4
    go_enter Try.func61, Try.ntmps61
    go_wp2
    go_ret
    exact ⟨rfl, rfl⟩

set_option maxHeartbeats 1600000 in
theorem refLong (y m : Int) (w : World) (h1 : 1 ≤ m) (h2 : m ≤ 12) : Calls Try.prog 56 #[.int .i64 y, .int .i64 m] w fun e w' => e = .returned (.int .i64 (Tide.long y m)) ∧ w = w' := by
  rcases Tide.twelve h1 h2 with rfl | rfl | rfl | rfl | rfl | rfl | rfl | rfl | rfl | rfl | rfl | rfl
  · have k : Hid (Tide.long y 1 = 31) := rfl
    go_enter Try.func56, Try.ntmps56
    go_wp2
    go_ret
    exact ⟨ret_int k.out.symm, rfl⟩
  · by_cases hl : Tide.leap y
    · have k : Hid (Tide.long y 2 = 29) := by show Tide.long y 2 = 29; unfold Tide.long; simp [hl]
      go_enter Try.func56, Try.ntmps56
      go_wp2_with (go_at_call 61; refine (refLeap_yes _ _ hl).mono ?_; rintro e w' ⟨rfl, rfl⟩)
      go_ret
      exact ⟨ret_int k.out.symm, rfl⟩
    · have k : Hid (Tide.long y 2 = 28) := by show Tide.long y 2 = 28; unfold Tide.long; simp [hl]
      go_enter Try.func56, Try.ntmps56
      go_wp2_with (go_at_call 61; refine (refLeap_no _ _ hl).mono ?_; rintro e w' ⟨rfl, rfl⟩)
      go_ret
      exact ⟨ret_int k.out.symm, rfl⟩
  · have k : Hid (Tide.long y 3 = 31) := rfl
    go_enter Try.func56, Try.ntmps56
    go_wp2
    go_ret
    exact ⟨ret_int k.out.symm, rfl⟩
  · have k : Hid (Tide.long y 4 = 30) := rfl
    go_enter Try.func56, Try.ntmps56
    go_wp2
    go_ret
    exact ⟨ret_int k.out.symm, rfl⟩
  · have k : Hid (Tide.long y 5 = 31) := rfl
    go_enter Try.func56, Try.ntmps56
    go_wp2
    go_ret
    exact ⟨ret_int k.out.symm, rfl⟩
  · have k : Hid (Tide.long y 6 = 30) := rfl
    go_enter Try.func56, Try.ntmps56
    go_wp2
    go_ret
    exact ⟨ret_int k.out.symm, rfl⟩
  · have k : Hid (Tide.long y 7 = 31) := rfl
    go_enter Try.func56, Try.ntmps56
    go_wp2
    go_ret
    exact ⟨ret_int k.out.symm, rfl⟩
  · have k : Hid (Tide.long y 8 = 31) := rfl
    go_enter Try.func56, Try.ntmps56
    go_wp2
    go_ret
    exact ⟨ret_int k.out.symm, rfl⟩
  · have k : Hid (Tide.long y 9 = 30) := rfl
    go_enter Try.func56, Try.ntmps56
    go_wp2
    go_ret
    exact ⟨ret_int k.out.symm, rfl⟩
  · have k : Hid (Tide.long y 10 = 31) := rfl
    go_enter Try.func56, Try.ntmps56
    go_wp2
    go_ret
    exact ⟨ret_int k.out.symm, rfl⟩
  · have k : Hid (Tide.long y 11 = 30) := rfl
    go_enter Try.func56, Try.ntmps56
    go_wp2
    go_ret
    exact ⟨ret_int k.out.symm, rfl⟩
  · have k : Hid (Tide.long y 12 = 31) := rfl
    go_enter Try.func56, Try.ntmps56
    go_wp2
    go_ret
    exact ⟨ret_int k.out.symm, rfl⟩

def yearsAt (y i v : Int) : Prop := -8000000 ≤ v ∧ v ≤ 8000000 ∧ ((i = 0 ∧ v = 365 * y) ∨ (i = 1 ∧ v = 365 * y + (y + 3) / 4) ∨ (i = 2 ∧ v = 365 * y + (y + 3) / 4 - (y + 99) / 100) ∨ (i = 3 ∧ v = Tide.years y))
set_option maxHeartbeats 1600000 in
theorem refYears (y : Int) (w : World) (y0 : -20000 ≤ y) (y1 : y ≤ 20000) : Calls Try.prog 55 #[.int .i64 y] w fun e w' => e = .returned (.int .i64 (Tide.years y)) ∧ Below w.heap.size w w' := by
  have hst : Hid (∀ v, v = 365 * y → yearsAt y 0 v) := fun v h => by unfold yearsAt; omega
  have hn0 : Hid (∀ v x c, yearsAt y 0 v → c = (y + 3) / 4 → x = v + c → yearsAt y 1 x) := fun v x c h => by unfold yearsAt at *; omega
  have hn1 : Hid (∀ v x c, yearsAt y 1 v → c = (y + 99) / 100 → x = v - c → yearsAt y 2 x) := fun v x c h => by unfold yearsAt at *; omega
  have hn2 : Hid (∀ v x c, yearsAt y 2 v → c = (y + 399) / 400 → x = v + c → yearsAt y 3 x) := fun v x c h => by unfold yearsAt at *; have : Tide.years y = 365 * y + (y + 3) / 4 - (y + 99) / 100 + (y + 399) / 400 := rfl; omega
  rcases Int.lt_or_le 0 y with hp | hp
  · go_enter Try.func55, Try.ntmps55
    go_wp2_with fail
    go_loop [3, 13] (fun n i => ∃ v k : Int, 0 ≤ k ∧ k ≤ 3 ∧ -8000000 ≤ v ∧ v ≤ 8000000 ∧ Hid (yearsAt y k v) ∧ i = .int .i64 k ∧ n = .int .i64 v) (fun _ i => (3 - intOf i).toNat)
    case atStart => exact ⟨_, 0, by omega, by omega, by omega, by omega, hst.out _ rfl, rfl, rfl⟩
    case round =>
      obtain ⟨v, k, k0, k1, v0, v1, hv, rfl, rfl⟩ := hrel
      obtain rfl | rfl | rfl | rfl : k = 0 ∨ k = 1 ∨ k = 2 ∨ k = 3 := by omega
      · go_wp2
        go_round
        case rel =>
          have hx := hn0.out v (v + ((y - 1) / 4 + 1)) ((y - 1) / 4 + 1) hv.out (by omega) rfl
          exact ⟨_, 1, by omega, by omega, hx.1, hx.2.1, hx, by go_num, by first | rfl | go_num⟩
        case measure => simp [intOf]
      · go_wp2
        go_round
        case rel =>
          have hx := hn1.out v (v - ((y - 1) / 100 + 1)) ((y - 1) / 100 + 1) hv.out (by omega) rfl
          exact ⟨_, 2, by omega, by omega, hx.1, hx.2.1, hx, by go_num, by first | rfl | go_num⟩
        case measure => simp [intOf]
      · go_wp2
        go_round
        case rel =>
          have hx := hn2.out v (v + ((y - 1) / 400 + 1)) ((y - 1) / 400 + 1) hv.out (by omega) rfl
          exact ⟨_, 3, by omega, by omega, hx.1, hx.2.1, hx, by go_num, by first | rfl | go_num⟩
        case measure => simp [intOf]
      · go_wp2
        go_ret
        exact ⟨ret_int (by have := hv.out; unfold yearsAt at this; omega), (Below.refl _ _).alloc (Nat.le_refl _) _⟩
  · obtain ⟨z, rfl⟩ : ∃ z, y = -z := ⟨-y, by omega⟩
    have z0 : 0 ≤ z := by omega
    have z1 : z ≤ 20000 := by omega
    clear y0 y1 hp
    go_enter Try.func55, Try.ntmps55
    go_wp2_with fail
    go_loop [3, 13] (fun n i => ∃ v k : Int, 0 ≤ k ∧ k ≤ 3 ∧ -8000000 ≤ v ∧ v ≤ 8000000 ∧ Hid (yearsAt (-z) k v) ∧ i = .int .i64 k ∧ n = .int .i64 v) (fun _ i => (3 - intOf i).toNat)
    case atStart => exact ⟨_, 0, by omega, by omega, by omega, by omega, hst.out _ (by omega), rfl, rfl⟩
    case round =>
      obtain ⟨v, k, k0, k1, v0, v1, hv, rfl, rfl⟩ := hrel
      obtain rfl | rfl | rfl | rfl : k = 0 ∨ k = 1 ∨ k = 2 ∨ k = 3 := by omega
      · go_wp2
        go_round
        case rel =>
          have hx := hn0.out v (v + (-(z / 4))) (-(z / 4)) hv.out (by omega) rfl
          exact ⟨_, 1, by omega, by omega, hx.1, hx.2.1, hx, by go_num, by first | rfl | go_num⟩
        case measure => simp [intOf]
      · go_wp2
        go_round
        case rel =>
          have hx := hn1.out v (v - (-(z / 100))) (-(z / 100)) hv.out (by omega) rfl
          exact ⟨_, 2, by omega, by omega, hx.1, hx.2.1, hx, by go_num, by first | rfl | go_num⟩
        case measure => simp [intOf]
      · go_wp2
        go_round
        case rel =>
          have hx := hn2.out v (v + (-(z / 400))) (-(z / 400)) hv.out (by omega) rfl
          exact ⟨_, 3, by omega, by omega, hx.1, hx.2.1, hx, by go_num, by first | rfl | go_num⟩
        case measure => simp [intOf]
      · go_wp2
        go_ret
        exact ⟨ret_int (by have := hv.out; unfold yearsAt at this; omega), (Below.refl _ _).alloc (Nat.le_refl _) _⟩
end Go.Proofs.Ytikjefghpnffkaa
