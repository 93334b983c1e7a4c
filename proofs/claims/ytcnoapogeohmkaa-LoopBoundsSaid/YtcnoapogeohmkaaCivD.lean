/- The contracts of civil.date, Of and Seconds. -/
import Derived.Test.YtcnoapogeohmkaaCivC
set_option linter.unusedVariables false
set_option linter.unusedSimpArgs false
namespace Go.Proofs.Ytcnoapogeohmkaa
open Go.RowKit
set_option linter.unusedVariables false

/-- a date that Days takes -/
def okDate (y m d : Int) : Prop := -4000 ≤ y ∧ y ≤ 8000 ∧ Tide.valid y m d
instance (y m d : Int) : Decidable (okDate y m d) := by unfold okDate Tide.valid; infer_instance

set_option maxHeartbeats 1600000 in
theorem civDate (n : Int) (w : World) (n0 : -4000000 ≤ n) (n1 : n ≤ 4000000) : Calls Try.prog 88 #[.int .i64 n] w fun e w' => e = .returned (.tuple #[.int .i64 (Tide.yrOf n), .int .i64 (Tide.moOf n), .int .i64 (Tide.dyOf n)]) ∧ w = w' := by
  have ho : n + 719468 - (n + 719468) / 146097 * 146097 = Tide.eo n := by unfold Tide.eo; omega
  obtain ⟨h1, h2, h3, h4, h5, h6⟩ := Tide.era_int n
  clear h5 h6
  have o0 : 0 ≤ Tide.eo n := by unfold Tide.eo; omega
  have o1 : Tide.eo n < 146097 := by unfold Tide.eo; omega
  have hy : (Tide.eo n - Tide.eo n / 1460 + Tide.eo n / 36524 - Tide.eo n / 146096) / 365 = Tide.ye n := rfl
  have hd : Tide.eo n - (365 * Tide.ye n + Tide.ye n / 4 - Tide.ye n / 100) = Tide.dd n := rfl
  have hm : (5 * Tide.dd n + 2) / 153 = Tide.mp n := rfl
  obtain ⟨m0, m1⟩ := Tide.mp_bd n
  have hdy : Hid (Tide.dd n - (153 * Tide.mp n + 2) / 5 + 1 = Tide.dyOf n) := rfl
  by_cases hc : 12 < Tide.mp n + 3
  · have k1 : Hid (Tide.ye n + (n + 719468) / 146097 * 400 + 1 = Tide.yrOf n) := by show _ = _; unfold Tide.yrOf Tide.yr0; rw [if_pos hc]
    have k2 : Hid (Tide.mp n + 3 - 12 = Tide.moOf n) := by show _ = _; unfold Tide.moOf; rw [if_pos hc]; omega
    go_enter Try.func88, Try.ntmps88
    go_wp2_with (first | (go_at_call 87; refine (civFloor _ _ _ (by omega) (by omega) (by omega)).mono ?_; rintro e w' ⟨rfl, rfl⟩))
    go_ret3
    exact ⟨ret_int3 k1.out k2.out hdy.out, rfl⟩
  · have k1 : Hid (Tide.ye n + (n + 719468) / 146097 * 400 = Tide.yrOf n) := by show _ = _; unfold Tide.yrOf Tide.yr0; rw [if_neg hc]
    have k2 : Hid (Tide.mp n + 3 = Tide.moOf n) := by show _ = _; unfold Tide.moOf; rw [if_neg hc]
    go_enter Try.func88, Try.ntmps88
    go_wp2_with (first | (go_at_call 87; refine (civFloor _ _ _ (by omega) (by omega) (by omega)).mono ?_; rintro e w' ⟨rfl, rfl⟩))
    go_ret3
    exact ⟨ret_int3 k1.out k2.out hdy.out, rfl⟩

def civZero : Value := .agg #[.int .i64 0, .int .i64 0, .int .i64 0, .int .i64 0, .int .i64 0, .int .i64 0, .int .i64 0]
/-- the date and time that Of tells -/
def civAgg (s h : Int) : Value := .agg #[.int .i64 (Tide.yrOf ((s + 60 * h) / 86400)), .int .i64 (Tide.moOf ((s + 60 * h) / 86400)), .int .i64 (Tide.dyOf ((s + 60 * h) / 86400)), .int .i64 ((s + 60 * h) % 86400 / 3600), .int .i64 ((s + 60 * h) % 86400 / 60 % 60), .int .i64 ((s + 60 * h) % 86400 % 60), .int .i64 (((s + 60 * h) / 86400 + 4) % 7)]
def okTime (s h : Int) : Prop := -100000000000 ≤ s ∧ s ≤ 100000000000 ∧ -900 ≤ h ∧ h ≤ 900
instance (s h : Int) : Decidable (okTime s h) := by unfold okTime; infer_instance

set_option maxHeartbeats 1600000 in
theorem civOf_no (s h : Int) (w : World) (hb : ¬ okTime s h) : Calls Try.prog 84 #[.int .i64 s, .int .i64 h] w fun e w' =>
    e = .returned (.tuple #[civZero, .int .i64 1]) ∧ Below w.heap.size w w' := by
  have hc : s < -100000000000 ∨ (-100000000000 ≤ s ∧ 100000000000 < s) ∨ (-100000000000 ≤ s ∧ s ≤ 100000000000 ∧ h < -900) ∨ (-100000000000 ≤ s ∧ s ≤ 100000000000 ∧ -900 ≤ h ∧ 900 < h) := by unfold okTime at hb; omega
  clear hb
  rcases hc with hc | ⟨hc, hd⟩ | ⟨hc, hd, he⟩ | ⟨hc, hd, he, hf⟩
  all_goals
    go_enter Try.func84, Try.ntmps84
    go_wp2
    refine bodyPost_ret (v := .tuple #[.agg #[.int .i64 0, .int .i64 0, .int .i64 0, .int .i64 0, .int .i64 0, .int .i64 0, .int .i64 0], .int .i64 1]) (by simp [results, Try.results84, go_sem]) rfl ⟨rfl, ?_⟩
    go_grown

set_option maxHeartbeats 1600000 in
theorem civOf_yes (s h : Int) (w : World) (hb : okTime s h) : Calls Try.prog 84 #[.int .i64 s, .int .i64 h] w fun e w' =>
    e = .returned (.tuple #[civAgg s h, .int .i64 0]) ∧ Below w.heap.size w w' := by
  obtain ⟨b0, b1, b2, b3⟩ := hb
  have em : s + 60 * h - (s + 60 * h) / 86400 * 86400 = (s + 60 * h) % 86400 := by omega
  have ew : (s + 60 * h) / 86400 + 4 - 7 * (((s + 60 * h) / 86400 + 4) / 7) = ((s + 60 * h) / 86400 + 4) % 7 := by omega
  have y0 := Tide.yrOf_lo (n := (s + 60 * h) / 86400) (y := -4000) (by rw [Tide.years_1970]; unfold Tide.years; omega)
  have y1 := Tide.yrOf_hi (n := (s + 60 * h) / 86400) (y := 8000) (by rw [Tide.years_1970]; unfold Tide.years; omega)
  go_enter Try.func84, Try.ntmps84
  go_wp2_with (first | (go_at_call 87; refine (civFloor _ _ _ (by omega) (by omega) (by omega)).mono ?_; rintro e w' ⟨rfl, rfl⟩) | (go_at_call 88; refine (civDate _ _ (by omega) (by omega)).mono ?_; rintro e w' ⟨rfl, rfl⟩))
  refine bodyPost_ret (v := .tuple #[civAgg s h, .int .i64 0]) (by simp [results, Try.results84, go_sem, civAgg]) rfl ⟨rfl, ?_⟩
  go_grown
end Go.Proofs.Ytcnoapogeohmkaa
