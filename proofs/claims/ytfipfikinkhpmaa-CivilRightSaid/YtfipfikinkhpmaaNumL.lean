/- The walks of the laws on numbers: NumCeil, NumLaws, NumShare, NumSays answer true at every input. -/
import Derived.Test.YtfipfikinkhpmaaNumR
import Derived.OpenShut
import Derived.Handy
namespace Go.Proofs.Ytfipfikinkhpmaa
set_option linter.unusedVariables false
open Go.RowKit

set_option maxHeartbeats 400000 in
theorem numCeil_walk (a : Int) (wa : (Lit.int .i64 a).wf = true) (b : Int) (wb : (Lit.int .i64 b).wf = true) (w : World) :
    Calls Try.prog 4 #[.int .i64 a, .int .i64 b] w fun e w' => e = .returned (.bool true) ∧ Below w.heap.size w w' := by
  have k : Hid (Tide.ceilc 7 3 = 3) := by show Tide.ceilc 7 3 = 3; decide
  by_cases h : b < 1
  · go_enter Try.func4, Try.ntmps4
    go_wp2_with fail
    refine (numCeil_yes 7 3 _ (by omega)).mono ?_
    rw [k.out]
    rintro e w' ⟨rfl, rfl⟩
    go_wp2_with fail
    refine (numCeil_no a b _ h).mono ?_
    rintro e w' ⟨rfl, rfl⟩
    go_wp2_with fail
    go_ret
    exact ⟨rfl, Below.refl _ _⟩
  · obtain ⟨e1, e2⟩ := Tide.ceil_euclid a (show 1 ≤ b by omega)
    obtain ⟨n1, n2, _, _⟩ := Tide.ceil_near a (n := Tide.ceilc a b) (show 1 ≤ b by omega) (by omega) (by omega)
    obtain ⟨m1, m2, _, _⟩ := Tide.ceil_near a (n := Tide.ceilc a b - 1) (show 1 ≤ b by omega) (by omega) (by omega)
    have c0 := Tide.ceil_lo a (show 1 ≤ b by omega); have c1 := Tide.ceil_hi a (show 1 ≤ b by omega)
    have d1 : decide (Tide.clip a ≤ Tide.ceilc a b * Tide.clip b) = true := decide_eq_true e1
    have d2 : decide ((Tide.ceilc a b - 1) * Tide.clip b < Tide.clip a) = true := decide_eq_true e2
    go_enter Try.func4, Try.ntmps4
    go_wp2_with fail
    refine (numCeil_yes 7 3 _ (by omega)).mono ?_
    rw [k.out]
    rintro e w' ⟨rfl, rfl⟩
    go_wp2_with fail
    refine (numCeil_yes a b _ (by omega)).mono ?_
    rintro e w' ⟨rfl, rfl⟩
    go_wp2_with (go_at_call 15; refine (numClip _ _).mono ?_; rintro e w' ⟨rfl, rfl⟩)
    go_ret
    exact ⟨rfl, Below.refl _ _⟩

set_option maxHeartbeats 1600000 in
theorem numSays_walk (a : Int) (wa : (Lit.int .i64 a).wf = true) (b : Int) (wb : (Lit.int .i64 b).wf = true) (w : World) :
    Calls Try.prog 9 #[.int .i64 a, .int .i64 b] w fun e w' => e = .returned (.bool true) ∧ Below w.heap.size w w' := by
  have a0 := Tide.clip_lo a; have a1 := Tide.clip_hi a; have b0 := Tide.clip_lo b; have b1 := Tide.clip_hi b
  have ha : Hid (Tide.addc a b = Tide.clip (Tide.clip a + Tide.clip b)) := rfl
  have hs : Hid (Tide.subc a b = Tide.clip (Tide.clip a - Tide.clip b)) := rfl
  by_cases h : b < 1
  · go_enter Try.func9, Try.ntmps9
    go_wp2_with fail
    refine (numCeil_no a b _ h).mono ?_
    rintro e w' ⟨rfl, rfl⟩
    go_wp2_with (first | (go_at_call 25; refine (refClip _ _).mono ?_; rintro e w' ⟨rfl, rfl⟩) | (go_at_call 15; refine (numClip _ _).mono ?_; rintro e w' ⟨rfl, rfl⟩) | (go_at_call 17; refine (numAdd _ _ _).mono ?_; rw [ha.out]; rintro e w' ⟨rfl, rfl⟩) | (go_at_call 18; refine (numSub _ _ _).mono ?_; rw [hs.out]; rintro e w' ⟨rfl, rfl⟩) | (go_at_call 16; refine (numMul _ _ _).mono ?_; rintro e w' ⟨rfl, rfl⟩) | (go_at_call 26; refine (refMul _ _ _).mono ?_; rintro e w' ⟨rfl, rfl⟩) | (go_at_call 19; refine (numShare _ _ _).mono ?_; rintro e w' ⟨rfl, rfl⟩) | (go_at_call 27; refine (refShare _ _ _).mono ?_; rintro e w' ⟨rfl, rfl⟩))
    go_ret
    exact ⟨rfl, Below.refl _ _⟩
  · have h' : 1 ≤ b := by omega
    go_enter Try.func9, Try.ntmps9
    go_wp2_with fail
    refine (numCeil_yes a b _ h').mono ?_
    rintro e w' ⟨rfl, rfl⟩
    go_wp2_with (first | (go_at_call 24; refine (refCeil _ _ _ h').mono ?_; rintro e w' ⟨rfl, rfl⟩) | (go_at_call 25; refine (refClip _ _).mono ?_; rintro e w' ⟨rfl, rfl⟩) | (go_at_call 15; refine (numClip _ _).mono ?_; rintro e w' ⟨rfl, rfl⟩) | (go_at_call 17; refine (numAdd _ _ _).mono ?_; rw [ha.out]; rintro e w' ⟨rfl, rfl⟩) | (go_at_call 18; refine (numSub _ _ _).mono ?_; rw [hs.out]; rintro e w' ⟨rfl, rfl⟩) | (go_at_call 16; refine (numMul _ _ _).mono ?_; rintro e w' ⟨rfl, rfl⟩) | (go_at_call 26; refine (refMul _ _ _).mono ?_; rintro e w' ⟨rfl, rfl⟩) | (go_at_call 19; refine (numShare _ _ _).mono ?_; rintro e w' ⟨rfl, rfl⟩) | (go_at_call 27; refine (refShare _ _ _).mono ?_; rintro e w' ⟨rfl, rfl⟩))
    go_ret
    exact ⟨rfl, Below.refl _ _⟩

set_option maxHeartbeats 800000 in
theorem numLaws_walk (a : Int) (wa : (Lit.int .i64 a).wf = true) (b : Int) (wb : (Lit.int .i64 b).wf = true) (c : Int) (wc : (Lit.int .i64 c).wf = true) (w : World) :
    Calls Try.prog 5 #[.int .i64 a, .int .i64 b, .int .i64 c] w fun e w' => e = .returned (.bool true) ∧ Below w.heap.size w w' := by
  have x0 : -1000000000000000 ≤ Tide.addc a b := Tide.clip_lo _
  have x1 : Tide.addc a b ≤ 1000000000000000 := Tide.clip_hi _
  have y0 : -1000000000000000 ≤ Tide.subc a b := Tide.clip_lo _
  have y1 : Tide.subc a b ≤ 1000000000000000 := Tide.clip_hi _
  have z0 : -1000000000000000 ≤ Tide.mulc a b := Tide.clip_lo _
  have z1 : Tide.mulc a b ≤ 1000000000000000 := Tide.clip_hi _
  have k1 : Hid (Tide.mulc 3 (-4) = -12) := by show Tide.mulc 3 (-4) = -12; decide
  have k2 : Hid (Tide.addc 1000000000000000 5 = 1000000000000000) := by show Tide.addc 1000000000000000 5 = _; decide
  go_enter Try.func5, Try.ntmps5
  go_wp2_with fail
  refine (numMul _ _ _).mono ?_
  rw [k1.out]
  rintro e w' ⟨rfl, rfl⟩
  go_wp2_with fail
  refine (numAdd _ _ _).mono ?_
  rw [k2.out]
  rintro e w' ⟨rfl, rfl⟩
  go_wp2_with (first | (go_at_call 15; refine (numClip _ _).mono ?_; rintro e w' ⟨rfl, rfl⟩) | (go_at_call 17; refine (numAdd _ _ _).mono ?_; rintro e w' ⟨rfl, rfl⟩) | (go_at_call 18; refine (numSub _ _ _).mono ?_; rintro e w' ⟨rfl, rfl⟩) | (go_at_call 16; refine (numMul _ _ _).mono ?_; rintro e w' ⟨rfl, rfl⟩))
  go_loop [32] (fun i => ∃ k : Int, 0 ≤ k ∧ k ≤ 3 ∧ i = .int .i64 k) (fun i => (3 - intOf i).toNat)
  case atStart => exact ⟨0, by omega, by omega, rfl⟩
  case round =>
    obtain ⟨k, h0, h3, rfl⟩ := hrel
    obtain rfl | rfl | rfl | rfl : k = 0 ∨ k = 1 ∨ k = 2 ∨ k = 3 := by omega
    · go_wp2
      go_round
      case rel => exact ⟨1, by omega, by omega, by go_num⟩
      case measure => simp [intOf]
    · go_wp2
      go_round
      case rel => exact ⟨2, by omega, by omega, by go_num⟩
      case measure => simp [intOf]
    · go_wp2
      go_round
      case rel => exact ⟨3, by omega, by omega, by go_num⟩
      case measure => simp [intOf]
    · have e1 := Tide.addc_comm b a
      have e2 := Tide.mulc_comm b a
      have e3 := Tide.subc_self a
      have e4 := Tide.mulc_one a
      by_cases hx : Tide.clip c ≤ Tide.clip a
      · have l1 := Tide.addc_mono (b := b) hx
        have l2 := Tide.subc_mono (b := b) hx
        by_cases hb : b < 0
        · go_wp2_with (first | (go_at_call 15; refine (numClip _ _).mono ?_; rintro e w' ⟨rfl, rfl⟩) | (go_at_call 17; refine (numAdd _ _ _).mono ?_; rintro e w' ⟨rfl, rfl⟩) | (go_at_call 18; refine (numSub _ _ _).mono ?_; rintro e w' ⟨rfl, rfl⟩) | (go_at_call 16; refine (numMul _ _ _).mono ?_; rintro e w' ⟨rfl, rfl⟩))
          go_ret
          exact ⟨rfl, (Below.refl _ _).alloc (Nat.le_refl _) _⟩
        · have l3 := Tide.mulc_mono hx (show 0 ≤ b by omega)
          go_wp2_with (first | (go_at_call 15; refine (numClip _ _).mono ?_; rintro e w' ⟨rfl, rfl⟩) | (go_at_call 17; refine (numAdd _ _ _).mono ?_; rintro e w' ⟨rfl, rfl⟩) | (go_at_call 18; refine (numSub _ _ _).mono ?_; rintro e w' ⟨rfl, rfl⟩) | (go_at_call 16; refine (numMul _ _ _).mono ?_; rintro e w' ⟨rfl, rfl⟩))
          go_ret
          exact ⟨rfl, (Below.refl _ _).alloc (Nat.le_refl _) _⟩
      · go_wp2_with (first | (go_at_call 15; refine (numClip _ _).mono ?_; rintro e w' ⟨rfl, rfl⟩) | (go_at_call 17; refine (numAdd _ _ _).mono ?_; rintro e w' ⟨rfl, rfl⟩) | (go_at_call 18; refine (numSub _ _ _).mono ?_; rintro e w' ⟨rfl, rfl⟩) | (go_at_call 16; refine (numMul _ _ _).mono ?_; rintro e w' ⟨rfl, rfl⟩))
        go_ret
        exact ⟨rfl, (Below.refl _ _).alloc (Nat.le_refl _) _⟩
def rest (n m : Int) : Int := n % m
theorem rest_eq {n m : Int} (hm : 0 < m) : (if n.tmod m < 0 then n.tmod m + m else n.tmod m) = n % m := by
  have h := tdiv_floor n m hm
  have h3 := Int.mul_ediv_add_emod n m
  have h4 := Int.mul_tdiv_add_tmod n m
  split at h
  · rename_i c
    rw [if_pos c]
    have : m * (n.tdiv m - 1) = m * n.tdiv m - m := by rw [Int.mul_sub]; omega
    rw [h] at this; omega
  · rename_i c
    rw [if_neg c]
    rw [← h] at h3; omega
theorem tmod_bd (a : Int) {b : Int} (h : 0 < b) : -b < a.tmod b ∧ a.tmod b < b := by
  have h4 := Int.tmod_lt_of_pos a h
  have := Int.tmod_lt_of_pos (-a) h
  rw [Int.neg_tmod] at this; omega
set_option maxHeartbeats 400000 in
theorem refRest (n m : Int) (w : World) (hm : 1 ≤ m) (hm' : m ≤ 1000000000000) : Calls Try.prog 20 #[.int .i64 n, .int .i64 m] w fun e w' => e = .returned (.int .i64 (rest n m)) ∧ w = w' := by
  obtain ⟨b0, b1⟩ := tmod_bd n (show 0 < m by omega)
  have he := Lib.hid (rest_eq (n := n) (show 0 < m by omega))
  by_cases hn : n.tmod m < 0
  · go_enter Try.func20, Try.ntmps20
    go_wp2
    go_ret
    exact ⟨ret_int (by have := he.out; rw [if_pos hn] at this; exact this), rfl⟩
  · go_enter Try.func20, Try.ntmps20
    go_wp2
    go_ret
    exact ⟨ret_int (by have := he.out; rw [if_neg (by omega)] at this; exact this), rfl⟩

/-- shares of numbers in bounds -/
theorem share_facts {a b m : Int} (ha : 0 ≤ a) (ha' : a < 1000000000) (hb : 0 ≤ b) (hb' : b < 1000000000) (hm : 0 ≤ m) (hm' : m < 100000) :
    Tide.sharec a 1000 = a ∧ Tide.sharec a 0 = 0 ∧ Tide.sharec a m + Tide.sharec b m ≤ Tide.sharec (a + b) m ∧ Tide.sharec (a + b) m ≤ Tide.sharec a m + Tide.sharec b m + 1 ∧ Tide.sharec a m = a * m / 1000 ∧
      0 ≤ a * m ∧ a * m ≤ 100000000000000 ∧ 0 ≤ Tide.sharec a m ∧ Tide.sharec a m ≤ 100000000000 ∧ 0 ≤ Tide.sharec b m ∧ Tide.sharec b m ≤ 100000000000 := by
  rw [Tide.sharec_of (a := a) (m := 1000) ha (by omega) (by omega) (by omega), Tide.sharec_of (a := a) (m := 0) ha (by omega) (by omega) (by omega), Tide.sharec_of (a := a) (m := m) ha hm (by omega) (by omega), Tide.sharec_of (a := b) (m := m) hb hm (by omega) (by omega), Tide.sharec_of (a := a + b) (m := m) (by omega) hm (by omega) (by omega), Int.add_mul]
  have h1 : 0 ≤ a * m := Int.mul_nonneg ha hm
  have h2 : a * m ≤ 1000000000 * 100000 := Int.mul_le_mul (by omega) (by omega) hm (by omega)
  have h3 : 0 ≤ b * m := Int.mul_nonneg hb hm
  have h4 : b * m ≤ 1000000000 * 100000 := Int.mul_le_mul (by omega) (by omega) hm (by omega)
  generalize a * m = x at *
  generalize b * m = y at *
  omega

set_option maxHeartbeats 1600000 in
theorem numShare_walk (a : Int) (wa : (Lit.int .i64 a).wf = true) (b : Int) (wb : (Lit.int .i64 b).wf = true) (m : Int) (wm : (Lit.int .i64 m).wf = true) (w : World) :
    Calls Try.prog 6 #[.int .i64 a, .int .i64 b, .int .i64 m] w fun e w' => e = .returned (.bool true) ∧ Below w.heap.size w w' := by
  have k : Hid (Tide.sharec 999 500 = 499) := by show Tide.sharec 999 500 = 499; decide
  have a0 : 0 ≤ rest a 1000000000 := Int.emod_nonneg _ (by omega)
  have a1 : rest a 1000000000 < 1000000000 := Int.emod_lt_of_pos _ (by omega)
  have b0 : 0 ≤ rest b 1000000000 := Int.emod_nonneg _ (by omega)
  have b1 : rest b 1000000000 < 1000000000 := Int.emod_lt_of_pos _ (by omega)
  have m0 : 0 ≤ rest m 100000 := Int.emod_nonneg _ (by omega)
  have m1 : rest m 100000 < 100000 := Int.emod_lt_of_pos _ (by omega)
  generalize hx : rest a 1000000000 = x at *
  generalize hy : rest b 1000000000 = y at *
  generalize hz : rest m 100000 = z at *
  have HX := Lib.hid hx; have HY := Lib.hid hy; have HZ := Lib.hid hz
  clear hx hy hz
  obtain ⟨s1, s2, s3, s4, s5, p0, p1, q0, q1, r0, r1⟩ := share_facts a0 a1 b0 b1 m0 m1
  have S1 := Lib.hid s1; have S2 := Lib.hid s2; have S5 := Lib.hid s5
  clear s1 s2 s5
  go_enter Try.func6, Try.ntmps6
  go_wp2_with fail
  refine (numShare 999 500 _).mono ?_
  rw [k.out]
  rintro e w' ⟨rfl, rfl⟩
  go_wp2_with fail
  refine (refRest a 1000000000 _ (by omega) (by omega)).mono ?_
  rw [HX.out]
  rintro e w' ⟨rfl, rfl⟩
  go_wp2_with fail
  refine (refRest b 1000000000 _ (by omega) (by omega)).mono ?_
  rw [HY.out]
  rintro e w' ⟨rfl, rfl⟩
  go_wp2_with fail
  refine (refRest m 100000 _ (by omega) (by omega)).mono ?_
  rw [HZ.out]
  rintro e w' ⟨rfl, rfl⟩
  go_wp2_with fail
  refine (numShare x z _).mono ?_
  rintro e w' ⟨rfl, rfl⟩
  go_wp2_with fail
  refine (numShare y z _).mono ?_
  rintro e w' ⟨rfl, rfl⟩
  go_wp2_with fail
  refine (numShare (x + y) z _).mono ?_
  rintro e w' ⟨rfl, rfl⟩
  go_wp2_with fail
  refine (numShare x 1000 _).mono ?_
  rw [S1.out]
  rintro e w' ⟨rfl, rfl⟩
  go_wp2_with fail
  refine (numShare x 0 _).mono ?_
  rw [S2.out]
  rintro e w' ⟨rfl, rfl⟩
  have s5 : (Tide.sharec x z == x * z / 1000) = true := by rw [S5.out]; simp
  go_wp2_with fail
  go_ret
  exact ⟨rfl, Below.refl _ _⟩
end Go.Proofs.Ytfipfikinkhpmaa
