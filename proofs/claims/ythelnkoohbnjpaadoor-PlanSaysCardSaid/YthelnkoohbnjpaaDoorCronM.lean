/- Plain facts on sets of bits (u64). -/
import Derived.WalkKit
import Derived.Laws.BitsAllLaws
set_option linter.unusedVariables false
set_option linter.unusedSimpArgs false
namespace Tide
open Go

theorem ofInt_u64 (a : Nat) (ha : a < 18446744073709551616) : (BitVec.ofInt 64 (a : Int)).toNat = a := by
  rw [BitVec.ofInt_natCast, BitVec.toNat_ofNat]; exact Nat.mod_eq_of_lt ha
theorem wrap_u64_nat (a : Nat) (ha : a < 18446744073709551616) : IntKind.u64.wrap (a : Int) = a := by
  rw [IntKind.wrap_u64]; omega
theorem and_u64 (a b : Nat) (ha : a < 18446744073709551616) (hb : b < 18446744073709551616) : bits .and .u64 (a : Int) (b : Int) = ((a &&& b : Nat) : Int) := by
  show IntKind.u64.wrap ((BitVec.ofInt 64 (a : Int) &&& BitVec.ofInt 64 (b : Int)).toNat : Int) = _
  rw [BitVec.toNat_and, ofInt_u64 a ha, ofInt_u64 b hb]
  exact wrap_u64_nat _ (Nat.lt_of_le_of_lt Nat.and_le_left ha)
theorem andNot_u64 (a b : Nat) (ha : a < 18446744073709551616) (hb : b < 18446744073709551616) : ∃ c : Nat, bits .andNot .u64 (a : Int) (b : Int) = (c : Int) ∧ c < 18446744073709551616 ∧ ∀ n, c.testBit n = (a.testBit n && !b.testBit n) := by
  refine ⟨(BitVec.ofInt 64 (a : Int) &&& ~~~ BitVec.ofInt 64 (b : Int)).toNat, ?_, BitVec.isLt _, fun n => ?_⟩
  · show IntKind.u64.wrap ((BitVec.ofInt 64 (a : Int) &&& ~~~ BitVec.ofInt 64 (b : Int)).toNat : Int) = _
    exact wrap_u64_nat _ (BitVec.isLt _)
  · rw [BitVec.toNat_and, Nat.testBit_and, ofInt_u64 a ha]
    by_cases hn : n < 64
    · congr 1
      rw [BitVec.testBit_toNat, BitVec.getLsbD_not, ← BitVec.testBit_toNat, ofInt_u64 b hb]
      simp [hn]
    · have : a.testBit n = false := Nat.testBit_lt_two_pow (Nat.lt_of_lt_of_le ha (by
        show 2 ^ 64 ≤ 2 ^ n
        exact Nat.pow_le_pow_right (by omega) (by omega)))
      rw [this]; rfl

/-- all numbers from lo to hi -/
def allN (lo hi : Nat) : Nat := 2 ^ (hi + 1) - 2 ^ lo
theorem allN_bit (lo hi n : Nat) (h : lo ≤ hi) : (allN lo hi).testBit n = (decide (lo ≤ n) && decide (n ≤ hi)) := by
  have e : allN lo hi = 2 ^ lo * (2 ^ (hi + 1 - lo) - 1) := by
    unfold allN
    rw [Nat.mul_sub, ← Nat.pow_add, Nat.mul_one, show lo + (hi + 1 - lo) = hi + 1 by omega]
  rw [e, Nat.testBit_two_pow_mul, Nat.testBit_two_pow_sub_one]
  by_cases h1 : lo ≤ n
  · have : (n - lo < hi + 1 - lo) ↔ n ≤ hi := by omega
    simp [h1, this]
  · simp [h1]
theorem allN_lt (lo hi : Nat) (h : hi ≤ 62) : allN lo hi < 9223372036854775808 := by
  have h1 : 2 ^ (hi + 1) ≤ 2 ^ 63 := Nat.pow_le_pow_right (by omega) (by omega)
  have h2 : 0 < 2 ^ lo := Nat.two_pow_pos _
  unfold allN
  have : 2 ^ 63 = 9223372036854775808 := by decide
  omega
theorem shift_bit (s : Nat) (k : Nat) (h : s < 18446744073709551616) : (bits .and .u64 ((s : Int) / 2 ^ k) 1 == 1) = s.testBit k := by
  have e : ((s : Int) / 2 ^ k) = ((s / 2 ^ k : Nat) : Int) := by simp
  rw [e, show (1 : Int) = ((1 : Nat) : Int) from rfl, and_u64 _ _ (Nat.lt_of_le_of_lt (Nat.div_le_self _ _) h) (by omega)]
  rw [Nat.testBit_eq_decide_div_mod_eq, Nat.and_one_is_mod]
  rw [Bool.eq_iff_iff]; simp; omega

/-- a field of a cron: its set is right -/
def okField (s : Int) (lo hi : Nat) (any : Bool) : Bool := !(s == 0) && (bits .andNot .u64 s (allN lo hi : Nat) == 0) && (!any || s == ((allN lo hi : Nat) : Int))
theorem okField_iff (s : Nat) (hs : s < 18446744073709551616) (lo hi : Nat) (h : lo ≤ hi) (h' : hi ≤ 62) (any : Bool) :
    okField (s : Int) lo hi any = true ↔ s ≠ 0 ∧ (∀ n, s.testBit n = true → lo ≤ n ∧ n ≤ hi) ∧ (any = true → ∀ n, lo ≤ n → n ≤ hi → s.testBit n = true) := by
  have hA := allN_lt lo hi h'
  obtain ⟨c, hc, hc', hb⟩ := andNot_u64 s (allN lo hi) hs (by omega)
  have hzero : c = 0 ↔ ∀ n, s.testBit n = true → lo ≤ n ∧ n ≤ hi := by
    constructor
    · intro h0 n hn
      have := hb n
      rw [h0, Nat.zero_testBit, hn, allN_bit lo hi n h] at this
      simp at this
      exact this
    · intro h0
      apply Nat.eq_of_testBit_eq
      intro n
      rw [hb, Nat.zero_testBit, allN_bit lo hi n h]
      cases hn : s.testBit n with
      | false => rfl
      | true => have := h0 n hn; simp [this]
  unfold okField
  rw [hc]
  simp only [Bool.and_eq_true, Bool.or_eq_true, Bool.not_eq_true', beq_eq_false_iff_ne, ne_eq, beq_iff_eq]
  constructor
  · rintro ⟨⟨h1, h2⟩, h3⟩
    refine ⟨by omega, hzero.1 (by omega), fun ha n n0 n1 => ?_⟩
    rcases h3 with h3 | h3
    · rw [ha] at h3; cases h3
    · have : s = allN lo hi := by omega
      rw [this, allN_bit lo hi n h]; simp [n0, n1]
  · rintro ⟨h1, h2, h3⟩
    refine ⟨⟨by omega, by rw [hzero.2 h2]; rfl⟩, ?_⟩
    cases any with
    | false => exact .inl rfl
    | true =>
      right
      have : s = allN lo hi := by
        apply Nat.eq_of_testBit_eq
        intro n
        rw [allN_bit lo hi n h]
        cases hn : s.testBit n with
        | true => have := h2 n hn; simp [this]
        | false =>
          by_cases hh : lo ≤ n ∧ n ≤ hi
          · have := h3 rfl n hh.1 hh.2
            rw [this] at hn; cases hn
          · by_cases h4 : lo ≤ n
            · have : ¬ n ≤ hi := fun h5 => hh ⟨h4, h5⟩
              simp [this]
            · simp [h4]
      omega
end Tide
