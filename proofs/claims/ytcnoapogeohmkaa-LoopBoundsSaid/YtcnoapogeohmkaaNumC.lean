/- The contracts of package num and of its reference: what each call answers, as a plain function of numbers; the world stays as it is. -/
import Derived.Test.YtcnoapogeohmkaaRows
import Derived.WalkKit
import Derived.WalkSpells
import Derived.WalkLawsBesides
import Derived.Lib.Hide
import Derived.Test.YtcnoapogeohmkaaNumM
set_option linter.unusedVariables false
set_option linter.unusedSimpArgs false
namespace Go.Proofs.Ytcnoapogeohmkaa
open Go.RowKit
theorem ret_int {k : IntKind} {a b : Int} (h : a = b) : Ending.returned (.int k a) = .returned (.int k b) := by rw [h]

set_option maxHeartbeats 400000 in
theorem numClip (n : Int) (w : World) : Calls Try.prog 76 #[.int .i64 n] w fun e w' => e = .returned (.int .i64 (Tide.clip n)) ∧ w = w' := by
  have k := Tide.clip_spec n
  by_cases h1 : n < -1000000000000000
  · go_enter Try.func76, Try.ntmps76
    go_wp2
    go_ret
    exact ⟨ret_int (by omega), rfl⟩
  · by_cases h2 : 1000000000000000 < n
    · go_enter Try.func76, Try.ntmps76
      go_wp2
      go_ret
      exact ⟨ret_int (by omega), rfl⟩
    · go_enter Try.func76, Try.ntmps76
      go_wp2
      go_ret
      exact ⟨ret_int (by omega), rfl⟩

set_option maxHeartbeats 400000 in
theorem refClip (n : Int) (w : World) : Calls Try.prog 56 #[.int .i64 n] w fun e w' => e = .returned (.int .i64 (Tide.clip n)) ∧ w = w' := by
  have k := Tide.clip_spec n
  by_cases h1 : n < -1000000000000000
  · go_enter Try.func56, Try.ntmps56
    go_wp2
    go_ret
    exact ⟨ret_int (by omega), rfl⟩
  · by_cases h2 : 1000000000000000 < n
    · go_enter Try.func56, Try.ntmps56
      go_wp2
      go_ret
      exact ⟨ret_int (by omega), rfl⟩
    · go_enter Try.func56, Try.ntmps56
      go_wp2
      go_ret
      exact ⟨ret_int (by omega), rfl⟩

set_option maxHeartbeats 400000 in
theorem numAdd (a b : Int) (w : World) : Calls Try.prog 74 #[.int .i64 a, .int .i64 b] w fun e w' => e = .returned (.int .i64 (Tide.addc a b)) ∧ w = w' := by
  have a0 := Tide.clip_lo a; have a1 := Tide.clip_hi a; have b0 := Tide.clip_lo b; have b1 := Tide.clip_hi b
  go_enter Try.func74, Try.ntmps74
  go_wp2_with (go_at_call 76; refine (numClip _ _).mono ?_; rintro e w' ⟨rfl, rfl⟩)
  go_ret
  exact ⟨rfl, rfl⟩

set_option maxHeartbeats 400000 in
theorem numSub (a b : Int) (w : World) : Calls Try.prog 64 #[.int .i64 a, .int .i64 b] w fun e w' => e = .returned (.int .i64 (Tide.subc a b)) ∧ w = w' := by
  have a0 := Tide.clip_lo a; have a1 := Tide.clip_hi a; have b0 := Tide.clip_lo b; have b1 := Tide.clip_hi b
  go_enter Try.func64, Try.ntmps64
  go_wp2_with (go_at_call 76; refine (numClip _ _).mono ?_; rintro e w' ⟨rfl, rfl⟩)
  go_ret
  exact ⟨rfl, rfl⟩


theorem wrap_small {n : Int} (h0 : -1000000000000000 ≤ n) (h1 : n ≤ 1000000000000000) : wrap64 n = n := IntWalk.wrap64_in n (by omega)
theorem quo_neg {B : Int} (h : B < 0) : wrap64 (-Int.tdiv 1000000000000000 B) = 1000000000000000 / -B := by
  rw [← Int.tdiv_neg, Int.tdiv_eq_ediv_of_nonneg (by omega)]
  exact wrap_small (by have := Int.ediv_nonneg (a := 1000000000000000) (b := -B) (by omega) (by omega); omega) (Int.ediv_le_self _ (by omega))
theorem mul_close_in {a b x y : Int} (hx : x = max a (-a)) (hy : y = max b (-b)) (hb : b ≠ 0) (h : x ≤ 1000000000000000 / y) : wrap64 (a * b) = Tide.clip (a * b) := by
  have e := Tide.mul_in hx hy hb h
  have h0 := Tide.clip_lo (a * b); have h1 := Tide.clip_hi (a * b)
  rw [e] at h0 h1 ⊢
  exact wrap_small h0 h1
set_option maxHeartbeats 1600000 in
theorem numMul (a b : Int) (w : World) : Calls Try.prog 63 #[.int .i64 a, .int .i64 b] w fun e w' => e = .returned (.int .i64 (Tide.mulc a b)) ∧ w = w' := by
  have a0 := Tide.clip_lo a; have a1 := Tide.clip_hi a; have b0 := Tide.clip_lo b; have b1 := Tide.clip_hi b
  by_cases hA : Tide.clip a = 0
  · have hz : Hid (Tide.mulc a b = 0) := Tide.mulc_zero_left hA
    go_enter Try.func63, Try.ntmps63
    go_wp2_with (go_at_call 76; refine (numClip _ _).mono ?_; rintro e w' ⟨rfl, rfl⟩)
    all_goals
      go_ret
      exact ⟨ret_int hz.out.symm, rfl⟩
  · have hA' : (Tide.clip a == 0) = false := by simp [hA]
    by_cases hB : Tide.clip b = 0
    · have hz : Hid (Tide.mulc a b = 0) := Tide.mulc_zero_right hB
      clear hA
      go_enter Try.func63, Try.ntmps63
      go_wp2_with (go_at_call 76; refine (numClip _ _).mono ?_; rintro e w' ⟨rfl, rfl⟩)
      all_goals
        go_ret
        exact ⟨ret_int hz.out.symm, rfl⟩
    · have hB' : (Tide.clip b == 0) = false := by simp [hB]
      have hmul : Hid (Tide.mulc a b = Tide.clip (Tide.clip a * Tide.clip b)) := rfl
      rcases Int.lt_or_lt_of_ne hA with ha | ha <;> rcases Int.lt_or_lt_of_ne hB with hb | hb
      · have ki := fun h => @mul_close_in (Tide.clip a) (Tide.clip b) (-Tide.clip a) (-Tide.clip b) (by omega) (by omega) hB h
        have ko := fun h => @Tide.mul_out (Tide.clip a) (Tide.clip b) (-Tide.clip a) (-Tide.clip b) (by omega) (by omega) hB h
        have KI := Lib.hid ki; have KO := Lib.hid ko; have hq := Lib.hid (quo_neg hb)
        clear hA hB ki ko
        go_enter Try.func63, Try.ntmps63
        go_wp2_with (go_at_call 76; refine (numClip _ _).mono ?_; rintro e w' ⟨rfl, rfl⟩)
        all_goals
          go_ret
          refine ⟨ret_int ?_, rfl⟩
          rw [hmul.out]
          first
            | exact KI.out (by rw [← hq.out]; assumption)
            | (rw [KO.out (by rw [← hq.out]; omega)]; simp_all; done)
            | (rw [KO.out (by rw [← hq.out]; omega)]; rw [if_pos (by simp; omega)])
            | (rw [KO.out (by rw [← hq.out]; omega)]; rw [if_neg (by simp; omega)])
      · have ki := fun h => @mul_close_in (Tide.clip a) (Tide.clip b) (-Tide.clip a) (Tide.clip b) (by omega) (by omega) hB h
        have ko := fun h => @Tide.mul_out (Tide.clip a) (Tide.clip b) (-Tide.clip a) (Tide.clip b) (by omega) (by omega) hB h
        have KI := Lib.hid ki; have KO := Lib.hid ko; skip
        clear hA hB ki ko
        go_enter Try.func63, Try.ntmps63
        go_wp2_with (go_at_call 76; refine (numClip _ _).mono ?_; rintro e w' ⟨rfl, rfl⟩)
        all_goals
          go_ret
          refine ⟨ret_int ?_, rfl⟩
          rw [hmul.out]
          first
            | exact KI.out (by skip; assumption)
            | (rw [KO.out (by skip; omega)]; simp_all; done)
            | (rw [KO.out (by skip; omega)]; rw [if_pos (by simp; omega)])
            | (rw [KO.out (by skip; omega)]; rw [if_neg (by simp; omega)])
      · have ki := fun h => @mul_close_in (Tide.clip a) (Tide.clip b) (Tide.clip a) (-Tide.clip b) (by omega) (by omega) hB h
        have ko := fun h => @Tide.mul_out (Tide.clip a) (Tide.clip b) (Tide.clip a) (-Tide.clip b) (by omega) (by omega) hB h
        have KI := Lib.hid ki; have KO := Lib.hid ko; have hq := Lib.hid (quo_neg hb)
        clear hA hB ki ko
        go_enter Try.func63, Try.ntmps63
        go_wp2_with (go_at_call 76; refine (numClip _ _).mono ?_; rintro e w' ⟨rfl, rfl⟩)
        all_goals
          go_ret
          refine ⟨ret_int ?_, rfl⟩
          rw [hmul.out]
          first
            | exact KI.out (by rw [← hq.out]; assumption)
            | (rw [KO.out (by rw [← hq.out]; omega)]; simp_all; done)
            | (rw [KO.out (by rw [← hq.out]; omega)]; rw [if_pos (by simp; omega)])
            | (rw [KO.out (by rw [← hq.out]; omega)]; rw [if_neg (by simp; omega)])
      · have ki := fun h => @mul_close_in (Tide.clip a) (Tide.clip b) (Tide.clip a) (Tide.clip b) (by omega) (by omega) hB h
        have ko := fun h => @Tide.mul_out (Tide.clip a) (Tide.clip b) (Tide.clip a) (Tide.clip b) (by omega) (by omega) hB h
        have KI := Lib.hid ki; have KO := Lib.hid ko; skip
        clear hA hB ki ko
        go_enter Try.func63, Try.ntmps63
        go_wp2_with (go_at_call 76; refine (numClip _ _).mono ?_; rintro e w' ⟨rfl, rfl⟩)
        all_goals
          go_ret
          refine ⟨ret_int ?_, rfl⟩
          rw [hmul.out]
          first
            | exact KI.out (by skip; assumption)
            | (rw [KO.out (by skip; omega)]; simp_all; done)
            | (rw [KO.out (by skip; omega)]; rw [if_pos (by simp; omega)])
            | (rw [KO.out (by skip; omega)]; rw [if_neg (by simp; omega)])


theorem tdiv_floor (a b : Int) (hb : 0 < b) : (if a.tmod b < 0 then a.tdiv b - 1 else a.tdiv b) = a / b := by
  rw [Int.tdiv_eq_ediv, Int.tmod_eq_emod]
  have h1 := Int.emod_nonneg a (show b ≠ 0 by omega)
  have h2 := Int.emod_lt_of_pos a hb
  by_cases h : 0 ≤ a ∨ b ∣ a
  · rw [if_pos h, if_pos h, if_neg (by omega)]; omega
  · rw [if_neg h, if_neg h, if_pos (by omega), Int.sign_eq_one_of_pos hb]; omega
theorem tdiv_bd (a b : Int) (hb : 0 < b) (h0 : -4000000000000000000 ≤ a) (h1 : a ≤ 4000000000000000000) : -4000000000000000000 ≤ a.tdiv b ∧ a.tdiv b ≤ 4000000000000000000 := by
  rw [tdiv_eq_if]
  split
  · have := IntWalk.tdiv_le a b (by omega) (by omega); omega
  · have := IntWalk.tdiv_le (-a) b (by omega) (by omega); omega
set_option maxHeartbeats 400000 in
theorem numFloor (a b : Int) (w : World) (hb : 1 ≤ b) (h0 : -4000000000000000000 ≤ a) (h1 : a ≤ 4000000000000000000) : Calls Try.prog 75 #[.int .i64 a, .int .i64 b] w fun e w' => e = .returned (.int .i64 (a / b)) ∧ w = w' := by
  have h := Lib.hid (tdiv_floor a b (by omega))
  have hd := tdiv_bd a b (by omega) h0 h1
  obtain ⟨d0, d1⟩ := hd
  by_cases hm : a.tmod b < 0
  · go_enter Try.func75, Try.ntmps75
    go_wp2
    go_ret
    exact ⟨ret_int (by have := h.out; rw [if_pos hm] at this; exact this), rfl⟩
  · go_enter Try.func75, Try.ntmps75
    go_wp2
    go_ret
    exact ⟨ret_int (by have := h.out; rw [if_neg (by omega)] at this; exact this), rfl⟩

set_option maxHeartbeats 400000 in
theorem numCeil_no (a b : Int) (w : World) (h : b < 1) : Calls Try.prog 62 #[.int .i64 a, .int .i64 b] w fun e w' => e = .returned (.tuple #[.int .i64 0, .int .i64 1]) ∧ w = w' := by
  go_enter Try.func62, Try.ntmps62
  go_wp2
  go_ret2
  exact ⟨rfl, rfl⟩
set_option maxHeartbeats 400000 in
theorem numCeil_yes (a b : Int) (w : World) (h : 1 ≤ b) : Calls Try.prog 62 #[.int .i64 a, .int .i64 b] w fun e w' => e = .returned (.tuple #[.int .i64 (Tide.ceilc a b), .int .i64 0]) ∧ w = w' := by
  have a0 := Tide.clip_lo a; have a1 := Tide.clip_hi a; have b0 := Tide.clip_one h; have b1 := Tide.clip_hi b
  have c0 := Tide.ceil_lo a h; have c1 := Tide.ceil_hi a h
  unfold Tide.ceilc at c0 c1
  go_enter Try.func62, Try.ntmps62
  go_wp2_with (first | (go_at_call 76; refine (numClip _ _).mono ?_; rintro e w' ⟨rfl, rfl⟩) | (go_at_call 75; refine (numFloor _ _ _ (by omega) (by omega) (by omega)).mono ?_; rintro e w' ⟨rfl, rfl⟩))
  go_ret2
  exact ⟨rfl, rfl⟩

set_option maxHeartbeats 800000 in
theorem numShare (a m : Int) (w : World) : Calls Try.prog 65 #[.int .i64 a, .int .i64 m] w fun e w' => e = .returned (.int .i64 (Tide.sharec a m)) ∧ w = w' := by
  obtain ⟨x, hx⟩ : ∃ x, (if a < 0 then 0 else a) = x := ⟨_, rfl⟩
  obtain ⟨y, hy⟩ : ∃ y, (if m < 0 then 0 else m) = y := ⟨_, rfl⟩
  have ex : Tide.pos a = Tide.clip x := by unfold Tide.pos; congr 1; omega
  have ey : Tide.pos m = Tide.clip y := by unfold Tide.pos; congr 1; omega
  have x0 : 0 ≤ Tide.clip x := Tide.clip_nonneg (by omega)
  have y0 : 0 ≤ Tide.clip y := Tide.clip_nonneg (by omega)
  have x1 := Tide.clip_hi x; have y1 := Tide.clip_hi y
  have hs : Hid (Tide.sharec a m = Tide.addc (Tide.addc (Tide.mulc (Tide.clip x / 1000) (Tide.clip y)) (Tide.mulc (Tide.clip x % 1000) (Tide.clip y / 1000))) (Tide.clip x % 1000 * (Tide.clip y % 1000) / 1000)) := by
    unfold Tide.sharec Hid
    rw [ex, ey, ← Tide.share_eq _ _ x0 y0 x1 y1]
    unfold Tide.addc
    rw [Tide.clip_clip]
    have e1 : Tide.clip (Tide.clip x % 1000 * (Tide.clip y % 1000) / 1000) = Tide.clip x % 1000 * (Tide.clip y % 1000) / 1000 := by
      have h0 : 0 ≤ Tide.clip x % 1000 * (Tide.clip y % 1000) := Int.mul_nonneg (by omega) (by omega)
      have h1 : Tide.clip x % 1000 * (Tide.clip y % 1000) ≤ 1000 * 1000 := Int.mul_le_mul (by omega) (by omega) (by omega) (by omega)
      exact Tide.clip_id (by omega) (by omega)
    rw [e1]
    unfold Tide.mulc
    simp only [Tide.clip_clip]
  have h0 : 0 ≤ Tide.clip x % 1000 * (Tide.clip y % 1000) := Int.mul_nonneg (by omega) (by omega)
  have h1 : Tide.clip x % 1000 * (Tide.clip y % 1000) ≤ 1000 * 1000 := Int.mul_le_mul (by omega) (by omega) (by omega) (by omega)
  clear ex ey
  go_enter Try.func65, Try.ntmps65
  go_wp2_with (first | (go_at_call 76; refine (numClip _ _).mono ?_; rintro e w' ⟨rfl, rfl⟩) | (go_at_call 63; refine (numMul _ _ _).mono ?_; rintro e w' ⟨rfl, rfl⟩) | (go_at_call 74; refine (numAdd _ _ _).mono ?_; rintro e w' ⟨rfl, rfl⟩))
  go_ret
  exact ⟨ret_int hs.out.symm, rfl⟩
end Go.Proofs.Ytcnoapogeohmkaa
