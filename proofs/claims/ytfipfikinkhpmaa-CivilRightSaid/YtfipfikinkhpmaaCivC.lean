/- The contracts of package civil: what each call answers, as plain functions of numbers. -/
import Derived.Test.YtfipfikinkhpmaaRows
import Derived.WalkKit
import Derived.WalkSpells
import Derived.WalkLawsBesides
import Derived.Lib.Hide
import Derived.Handy
import Derived.Test.YtfipfikinkhpmaaNumC
import Derived.Test.YtfipfikinkhpmaaCivM
namespace Go.Proofs.Ytfipfikinkhpmaa
open Go.RowKit
set_option linter.unusedVariables false

theorem ret_int2 {k k' : IntKind} {a b c d : Int} (h : a = b) (h' : c = d) : Ending.returned (.tuple #[.int k a, .int k' c]) = .returned (.tuple #[.int k b, .int k' d]) := by rw [h, h']
theorem ret_int3 {k k' k'' : IntKind} {a b c d e f : Int} (h : a = b) (h' : c = d) (h'' : e = f) : Ending.returned (.tuple #[.int k a, .int k' c, .int k'' e]) = .returned (.tuple #[.int k b, .int k' d, .int k'' f]) := by rw [h, h', h'']
theorem tmod_zero (y k : Int) : (y.tmod k == 0) = decide (y % k = 0) := by
  rw [Bool.eq_iff_iff]
  simp only [beq_iff_eq, decide_eq_true_eq]
  exact ⟨fun h => Int.emod_eq_zero_of_dvd (Int.dvd_of_tmod_eq_zero h), fun h => Int.tmod_eq_zero_of_dvd (Int.dvd_of_emod_eq_zero h)⟩

theorem tmod_zero_ne (y k : Int) : (y.tmod k != 0) = !decide (y % k = 0) := by
  rw [← tmod_zero]; rfl

set_option maxHeartbeats 400000 in
theorem civLeap_yes (y : Int) (w : World) (h : Tide.leap y) : Calls Try.prog 44 #[.int .i64 y] w fun e w' => e = .returned (.bool true) ∧ w = w' := by
  have h4 : (y.tmod 4 == 0) = true := by rw [tmod_zero]; unfold Tide.leap at h; simp; omega
  by_cases h100 : y % 100 = 0
  · have k100 : (y.tmod 100 != 0) = false := by rw [tmod_zero_ne]; simp [h100]
    have k400 : (y.tmod 400 == 0) = true := by rw [tmod_zero]; unfold Tide.leap at h; simp; omega
    clear h h100
    go_enter Try.func44, Try.ntmps44
    go_wp2
    go_ret
    exact ⟨rfl, rfl⟩
  · have k100 : (y.tmod 100 != 0) = true := by rw [tmod_zero_ne]; simp [h100]
    clear h h100
    go_enter Try.func44, Try.ntmps44
    go_wp2
    go_ret
    exact ⟨rfl, rfl⟩
set_option maxHeartbeats 400000 in
theorem civLeap_no (y : Int) (w : World) (h : ¬ Tide.leap y) : Calls Try.prog 44 #[.int .i64 y] w fun e w' => e = .returned (.bool false) ∧ w = w' := by
  by_cases h4 : y % 4 = 0
  · have k4 : (y.tmod 4 == 0) = true := by rw [tmod_zero]; simp [h4]
    have k100 : (y.tmod 100 != 0) = false := by rw [tmod_zero_ne]; unfold Tide.leap at h; simp; omega
    have k400 : (y.tmod 400 == 0) = false := by rw [tmod_zero]; unfold Tide.leap at h; simp; omega
    clear h h4
    go_enter Try.func44, Try.ntmps44
    go_wp2
    go_ret
    exact ⟨rfl, rfl⟩
  · have k4 : (y.tmod 4 == 0) = false := by rw [tmod_zero]; simp [h4]
    clear h h4
    go_enter Try.func44, Try.ntmps44
    go_wp2
    go_ret
    exact ⟨rfl, rfl⟩

set_option maxHeartbeats 1600000 in
theorem civLong (y m : Int) (w : World) (h1 : 1 ≤ m) (h2 : m ≤ 12) : Calls Try.prog 34 #[.int .i64 y, .int .i64 m] w fun e w' => e = .returned (.int .i64 (Tide.long y m)) ∧ w = w' := by
  rcases Tide.twelve h1 h2 with rfl | rfl | rfl | rfl | rfl | rfl | rfl | rfl | rfl | rfl | rfl | rfl
  · have k : Hid (Tide.long y 1 = 31) := rfl
    have hi : ∀ w : World, (Instr.index 54 (.agg #[.int .i64 0, .int .i64 31, .int .i64 28, .int .i64 31, .int .i64 30, .int .i64 31, .int .i64 30, .int .i64 31, .int .i64 31, .int .i64 30, .int .i64 31, .int .i64 30, .int .i64 31]) (.int .i64 1)).run Try.prog w = .ok (.int .i64 31) w := fun _ => by kernel_rfl
    go_enter Try.func34, Try.ntmps34
    go_wp2
    go_ret
    exact ⟨ret_int k.out.symm, rfl⟩
  · by_cases hl : Tide.leap y
    · have k : Hid (Tide.long y 2 = 29) := by show Tide.long y 2 = 29; unfold Tide.long; simp [hl]
      go_enter Try.func34, Try.ntmps34
      go_wp2_with (go_at_call 44; refine (civLeap_yes _ _ hl).mono ?_; rintro e w' ⟨rfl, rfl⟩)
      go_ret
      exact ⟨ret_int k.out.symm, rfl⟩
    · have k : Hid (Tide.long y 2 = 28) := by show Tide.long y 2 = 28; unfold Tide.long; simp [hl]
      have hi : ∀ w : World, (Instr.index 54 (.agg #[.int .i64 0, .int .i64 31, .int .i64 28, .int .i64 31, .int .i64 30, .int .i64 31, .int .i64 30, .int .i64 31, .int .i64 31, .int .i64 30, .int .i64 31, .int .i64 30, .int .i64 31]) (.int .i64 2)).run Try.prog w = .ok (.int .i64 28) w := fun _ => by kernel_rfl
      go_enter Try.func34, Try.ntmps34
      go_wp2_with (go_at_call 44; refine (civLeap_no _ _ hl).mono ?_; rintro e w' ⟨rfl, rfl⟩)
      go_ret
      exact ⟨ret_int k.out.symm, rfl⟩
  · have k : Hid (Tide.long y 3 = 31) := rfl
    have hi : ∀ w : World, (Instr.index 54 (.agg #[.int .i64 0, .int .i64 31, .int .i64 28, .int .i64 31, .int .i64 30, .int .i64 31, .int .i64 30, .int .i64 31, .int .i64 31, .int .i64 30, .int .i64 31, .int .i64 30, .int .i64 31]) (.int .i64 3)).run Try.prog w = .ok (.int .i64 31) w := fun _ => by kernel_rfl
    go_enter Try.func34, Try.ntmps34
    go_wp2
    go_ret
    exact ⟨ret_int k.out.symm, rfl⟩
  · have k : Hid (Tide.long y 4 = 30) := rfl
    have hi : ∀ w : World, (Instr.index 54 (.agg #[.int .i64 0, .int .i64 31, .int .i64 28, .int .i64 31, .int .i64 30, .int .i64 31, .int .i64 30, .int .i64 31, .int .i64 31, .int .i64 30, .int .i64 31, .int .i64 30, .int .i64 31]) (.int .i64 4)).run Try.prog w = .ok (.int .i64 30) w := fun _ => by kernel_rfl
    go_enter Try.func34, Try.ntmps34
    go_wp2
    go_ret
    exact ⟨ret_int k.out.symm, rfl⟩
  · have k : Hid (Tide.long y 5 = 31) := rfl
    have hi : ∀ w : World, (Instr.index 54 (.agg #[.int .i64 0, .int .i64 31, .int .i64 28, .int .i64 31, .int .i64 30, .int .i64 31, .int .i64 30, .int .i64 31, .int .i64 31, .int .i64 30, .int .i64 31, .int .i64 30, .int .i64 31]) (.int .i64 5)).run Try.prog w = .ok (.int .i64 31) w := fun _ => by kernel_rfl
    go_enter Try.func34, Try.ntmps34
    go_wp2
    go_ret
    exact ⟨ret_int k.out.symm, rfl⟩
  · have k : Hid (Tide.long y 6 = 30) := rfl
    have hi : ∀ w : World, (Instr.index 54 (.agg #[.int .i64 0, .int .i64 31, .int .i64 28, .int .i64 31, .int .i64 30, .int .i64 31, .int .i64 30, .int .i64 31, .int .i64 31, .int .i64 30, .int .i64 31, .int .i64 30, .int .i64 31]) (.int .i64 6)).run Try.prog w = .ok (.int .i64 30) w := fun _ => by kernel_rfl
    go_enter Try.func34, Try.ntmps34
    go_wp2
    go_ret
    exact ⟨ret_int k.out.symm, rfl⟩
  · have k : Hid (Tide.long y 7 = 31) := rfl
    have hi : ∀ w : World, (Instr.index 54 (.agg #[.int .i64 0, .int .i64 31, .int .i64 28, .int .i64 31, .int .i64 30, .int .i64 31, .int .i64 30, .int .i64 31, .int .i64 31, .int .i64 30, .int .i64 31, .int .i64 30, .int .i64 31]) (.int .i64 7)).run Try.prog w = .ok (.int .i64 31) w := fun _ => by kernel_rfl
    go_enter Try.func34, Try.ntmps34
    go_wp2
    go_ret
    exact ⟨ret_int k.out.symm, rfl⟩
  · have k : Hid (Tide.long y 8 = 31) := rfl
    have hi : ∀ w : World, (Instr.index 54 (.agg #[.int .i64 0, .int .i64 31, .int .i64 28, .int .i64 31, .int .i64 30, .int .i64 31, .int .i64 30, .int .i64 31, .int .i64 31, .int .i64 30, .int .i64 31, .int .i64 30, .int .i64 31]) (.int .i64 8)).run Try.prog w = .ok (.int .i64 31) w := fun _ => by kernel_rfl
    go_enter Try.func34, Try.ntmps34
    go_wp2
    go_ret
    exact ⟨ret_int k.out.symm, rfl⟩
  · have k : Hid (Tide.long y 9 = 30) := rfl
    have hi : ∀ w : World, (Instr.index 54 (.agg #[.int .i64 0, .int .i64 31, .int .i64 28, .int .i64 31, .int .i64 30, .int .i64 31, .int .i64 30, .int .i64 31, .int .i64 31, .int .i64 30, .int .i64 31, .int .i64 30, .int .i64 31]) (.int .i64 9)).run Try.prog w = .ok (.int .i64 30) w := fun _ => by kernel_rfl
    go_enter Try.func34, Try.ntmps34
    go_wp2
    go_ret
    exact ⟨ret_int k.out.symm, rfl⟩
  · have k : Hid (Tide.long y 10 = 31) := rfl
    have hi : ∀ w : World, (Instr.index 54 (.agg #[.int .i64 0, .int .i64 31, .int .i64 28, .int .i64 31, .int .i64 30, .int .i64 31, .int .i64 30, .int .i64 31, .int .i64 31, .int .i64 30, .int .i64 31, .int .i64 30, .int .i64 31]) (.int .i64 10)).run Try.prog w = .ok (.int .i64 31) w := fun _ => by kernel_rfl
    go_enter Try.func34, Try.ntmps34
    go_wp2
    go_ret
    exact ⟨ret_int k.out.symm, rfl⟩
  · have k : Hid (Tide.long y 11 = 30) := rfl
    have hi : ∀ w : World, (Instr.index 54 (.agg #[.int .i64 0, .int .i64 31, .int .i64 28, .int .i64 31, .int .i64 30, .int .i64 31, .int .i64 30, .int .i64 31, .int .i64 31, .int .i64 30, .int .i64 31, .int .i64 30, .int .i64 31]) (.int .i64 11)).run Try.prog w = .ok (.int .i64 30) w := fun _ => by kernel_rfl
    go_enter Try.func34, Try.ntmps34
    go_wp2
    go_ret
    exact ⟨ret_int k.out.symm, rfl⟩
  · have k : Hid (Tide.long y 12 = 31) := rfl
    have hi : ∀ w : World, (Instr.index 54 (.agg #[.int .i64 0, .int .i64 31, .int .i64 28, .int .i64 31, .int .i64 30, .int .i64 31, .int .i64 30, .int .i64 31, .int .i64 31, .int .i64 30, .int .i64 31, .int .i64 30, .int .i64 31]) (.int .i64 12)).run Try.prog w = .ok (.int .i64 31) w := fun _ => by kernel_rfl
    go_enter Try.func34, Try.ntmps34
    go_wp2
    go_ret
    exact ⟨ret_int k.out.symm, rfl⟩

set_option maxHeartbeats 400000 in
theorem civFloor (a b : Int) (w : World) (hb : 1 ≤ b) (h0 : -4000000000000000000 ≤ a) (h1 : a ≤ 4000000000000000000) : Calls Try.prog 35 #[.int .i64 a, .int .i64 b] w fun e w' => e = .returned (.int .i64 (a / b)) ∧ w = w' := by
  have h := Lib.hid (tdiv_floor a b (by omega))
  have hd := tdiv_bd a b (by omega) h0 h1
  obtain ⟨d0, d1⟩ := hd
  by_cases hm : a.tmod b < 0
  · go_enter Try.func35, Try.ntmps35
    go_wp2
    go_ret
    exact ⟨ret_int (by have := h.out; rw [if_pos hm] at this; exact this), rfl⟩
  · go_enter Try.func35, Try.ntmps35
    go_wp2
    go_ret
    exact ⟨ret_int (by have := h.out; rw [if_neg (by omega)] at this; exact this), rfl⟩

end Go.Proofs.Ytfipfikinkhpmaa
