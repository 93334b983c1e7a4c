/- Plain facts on sets of bits (u64). The contracts of package cron: has, all, fields, Check, day, Match. The contract of cron.Check. The contracts of cron.day and cron.Match. -/
import Derived.WalkKit
import Derived.Laws.BitsAllLaws
import Derived.Test.YthelnkoohbnjpaaDoorRows
import Derived.WalkSpells
import Derived.WalkLawsBesides
import Derived.Lib.Hide
import Derived.Handy
import Derived.Deep.QuietTactic
import Derived.BigQuiet
import Derived.Test.YthelnkoohbnjpaaDoorZBase
import Derived.BigRegion
import Derived.Deep.RegionHeld3

set_option linter.unusedVariables false
set_option linter.unusedSimpArgs false
namespace Tide
open Go

theorem ofInt_u64 (a : Nat) (ha : a < 18446744073709551616) : (BitVec.ofInt 64 (a : Int)).toNat = a := by
  rw [BitVec.ofInt_natCast, BitVec.toNat_ofNat]; exact Nat.mod_eq_of_lt ha
theorem wrap_u64_nat (a : Nat) (ha : a < 18446744073709551616) : IntKind.u64.wrap (a : Int) = a := by
  rw [IntKind.wrap_u64]; omega
theorem and_u64 (a b : Nat) (ha : a < 18446744073709551616) (hb : b < 18446744073709551616) : bits .and .u64 (a : Int) (b : Int) = ((a &&& b : Nat) : Int) := by
  show IntKind.u64.wrap ((BitVec.ofInt 64 (a : Int) &&& BitVec.ofInt 64 (b : Int)).toNat : Int) = _
  rw [BitVec.toNat_and, ofInt_u64 a ha, ofInt_u64 b hb]
  exact wrap_u64_nat _ (Nat.lt_of_le_of_lt Nat.and_le_left ha)
theorem andNot_u64 (a b : Nat) (ha : a < 18446744073709551616) (hb : b < 18446744073709551616) : ∃ c : Nat, bits .andNot .u64 (a : Int) (b : Int) = (c : Int) ∧ c < 18446744073709551616 ∧ ∀ n, c.testBit n = (a.testBit n && !b.testBit n) := by
  refine ⟨(BitVec.ofInt 64 (a : Int) &&& ~~~ BitVec.ofInt 64 (b : Int)).toNat, ?_, BitVec.isLt _, fun n => ?_⟩
  · show IntKind.u64.wrap ((BitVec.ofInt 64 (a : Int) &&& ~~~ BitVec.ofInt 64 (b : Int)).toNat : Int) = _
    exact wrap_u64_nat _ (BitVec.isLt _)
  · rw [BitVec.toNat_and, Nat.testBit_and, ofInt_u64 a ha]
    by_cases hn : n < 64
    · congr 1
      rw [BitVec.testBit_toNat, BitVec.getLsbD_not, ← BitVec.testBit_toNat, ofInt_u64 b hb]
      simp [hn]
    · have : a.testBit n = false := Nat.testBit_lt_two_pow (Nat.lt_of_lt_of_le ha (by
        show 2 ^ 64 ≤ 2 ^ n
        exact Nat.pow_le_pow_right (by omega) (by omega)))
      rw [this]; rfl

/-- all numbers from lo to hi -/
def allN (lo hi : Nat) : Nat := 2 ^ (hi + 1) - 2 ^ lo
theorem allN_bit (lo hi n : Nat) (h : lo ≤ hi) : (allN lo hi).testBit n = (decide (lo ≤ n) && decide (n ≤ hi)) := by
  have e : allN lo hi = 2 ^ lo * (2 ^ (hi + 1 - lo) - 1) := by
    unfold allN
    rw [Nat.mul_sub, ← Nat.pow_add, Nat.mul_one, show lo + (hi + 1 - lo) = hi + 1 by omega]
  rw [e, Nat.testBit_two_pow_mul, Nat.testBit_two_pow_sub_one]
  by_cases h1 : lo ≤ n
  · have : (n - lo < hi + 1 - lo) ↔ n ≤ hi := by omega
    simp [h1, this]
  · simp [h1]
theorem allN_lt (lo hi : Nat) (h : hi ≤ 62) : allN lo hi < 9223372036854775808 := by
  have h1 : 2 ^ (hi + 1) ≤ 2 ^ 63 := Nat.pow_le_pow_right (by omega) (by omega)
  have h2 : 0 < 2 ^ lo := Nat.two_pow_pos _
  unfold allN
  have : 2 ^ 63 = 9223372036854775808 := by decide
  omega
theorem shift_bit (s : Nat) (k : Nat) (h : s < 18446744073709551616) : (bits .and .u64 ((s : Int) / 2 ^ k) 1 == 1) = s.testBit k := by
  have e : ((s : Int) / 2 ^ k) = ((s / 2 ^ k : Nat) : Int) := by simp
  rw [e, show (1 : Int) = ((1 : Nat) : Int) from rfl, and_u64 _ _ (Nat.lt_of_le_of_lt (Nat.div_le_self _ _) h) (by omega)]
  rw [Nat.testBit_eq_decide_div_mod_eq, Nat.and_one_is_mod]
  rw [Bool.eq_iff_iff]; simp; omega

/-- a field of a cron: its set is right -/
def okField (s : Int) (lo hi : Nat) (any : Bool) : Bool := !(s == 0) && (bits .andNot .u64 s (allN lo hi : Nat) == 0) && (!any || s == ((allN lo hi : Nat) : Int))
theorem okField_iff (s : Nat) (hs : s < 18446744073709551616) (lo hi : Nat) (h : lo ≤ hi) (h' : hi ≤ 62) (any : Bool) :
    okField (s : Int) lo hi any = true ↔ s ≠ 0 ∧ (∀ n, s.testBit n = true → lo ≤ n ∧ n ≤ hi) ∧ (any = true → ∀ n, lo ≤ n → n ≤ hi → s.testBit n = true) := by
  have hA := allN_lt lo hi h'
  obtain ⟨c, hc, hc', hb⟩ := andNot_u64 s (allN lo hi) hs (by omega)
  have hzero : c = 0 ↔ ∀ n, s.testBit n = true → lo ≤ n ∧ n ≤ hi := by
    constructor
    · intro h0 n hn
      have := hb n
      rw [h0, Nat.zero_testBit, hn, allN_bit lo hi n h] at this
      simp at this
      exact this
    · intro h0
      apply Nat.eq_of_testBit_eq
      intro n
      rw [hb, Nat.zero_testBit, allN_bit lo hi n h]
      cases hn : s.testBit n with
      | false => rfl
      | true => have := h0 n hn; simp [this]
  unfold okField
  rw [hc]
  simp only [Bool.and_eq_true, Bool.or_eq_true, Bool.not_eq_true', beq_eq_false_iff_ne, ne_eq, beq_iff_eq]
  constructor
  · rintro ⟨⟨h1, h2⟩, h3⟩
    refine ⟨by omega, hzero.1 (by omega), fun ha n n0 n1 => ?_⟩
    rcases h3 with h3 | h3
    · rw [ha] at h3; cases h3
    · have : s = allN lo hi := by omega
      rw [this, allN_bit lo hi n h]; simp [n0, n1]
  · rintro ⟨h1, h2, h3⟩
    refine ⟨⟨by omega, by rw [hzero.2 h2]; rfl⟩, ?_⟩
    cases any with
    | false => exact .inl rfl
    | true =>
      right
      have : s = allN lo hi := by
        apply Nat.eq_of_testBit_eq
        intro n
        rw [allN_bit lo hi n h]
        cases hn : s.testBit n with
        | true => have := h2 n hn; simp [this]
        | false =>
          by_cases hh : lo ≤ n ∧ n ≤ hi
          · have := h3 rfl n hh.1 hh.2
            rw [this] at hn; cases hn
          · by_cases h4 : lo ≤ n
            · have : ¬ n ≤ hi := fun h5 => hh ⟨h4, h5⟩
              simp [this]
            · simp [h4]
      omega
end Tide


namespace Go.Proofs.YthelnkoohbnjpaaDoor
open Go.RowKit
set_option linter.unusedVariables false

theorem ret_int {k : IntKind} {a b : Int} (h : a = b) : Ending.returned (.int k a) = .returned (.int k b) := by rw [h]

/-- is n in the set s? -/
def hasB (s : Nat) (n : Int) : Bool := decide (0 ≤ n) && decide (n < 64) && s.testBit n.toNat
set_option maxHeartbeats 400000 in
theorem cronHas (s : Nat) (n : Int) (w : World) (hs : s < 18446744073709551616) : Calls Tryd.prog 39 #[.int .u64 (s : Int), .int .i64 n] w fun e w' => e = .returned (.bool (hasB s n)) ∧ w = w' := by
  by_cases h0 : 0 ≤ n
  · by_cases h1 : n < 64
    · obtain ⟨k, rfl⟩ := Int.eq_ofNat_of_zero_le h0
      have hb := Lib.hid (Tide.shift_bit s k hs)
      have k1 : Hid (hasB s (k : Int) = s.testBit k) := by show _ = _; unfold hasB; simp; omega
      have s0 : (0 : Int) ≤ (s : Int) := by omega
      have s1 := Lib.hid hs
      clear hs
      go_enter Tryd.func39, Tryd.ntmps39
      go_wp2
      go_ret
      refine ⟨?_, rfl⟩
      rw [k1.out, ← hb.out]
      first | rfl | (simp; done)
    · have k : hasB s n = false := by unfold hasB; simp [h1]
      rw [k]
      clear hs
      go_enter Tryd.func39, Tryd.ntmps39
      go_wp2
      go_ret
      exact ⟨rfl, rfl⟩
  · have k : hasB s n = false := by unfold hasB; simp [h0]
    rw [k]
    clear hs
    go_enter Tryd.func39, Tryd.ntmps39
    go_wp2
    go_ret
    exact ⟨rfl, rfl⟩
theorem pow_u64 {k : Nat} (h : k ≤ 62) : IntKind.u64.wrap ((2 : Int) ^ k) = ((2 ^ k : Nat) : Int) := by
  have e : ((2 : Int) ^ k) = ((2 ^ k : Nat) : Int) := by simp
  rw [e]
  exact Tide.wrap_u64_nat _ (Nat.lt_of_le_of_lt (Nat.pow_le_pow_right (by omega) h) (by decide))
theorem all_eq {lo hi : Nat} (h1 : lo ≤ hi) (h2 : hi ≤ 60) : IntKind.u64.wrap (IntKind.u64.wrap ((2 : Int) ^ ((hi : Int) + 1).toNat) - IntKind.u64.wrap ((2 : Int) ^ ((lo : Int)).toNat)) = ((Tide.allN lo hi : Nat) : Int) := by
  rw [show ((hi : Int) + 1).toNat = hi + 1 by omega, show ((lo : Int)).toNat = lo by omega, pow_u64 (by omega), pow_u64 (by omega)]
  have h3 : 2 ^ lo ≤ 2 ^ (hi + 1) := Nat.pow_le_pow_right (by omega) (by omega)
  have := Tide.allN_lt lo hi (by omega)
  have e : (((2 ^ (hi + 1) : Nat) : Int) - ((2 ^ lo : Nat) : Int)) = ((Tide.allN lo hi : Nat) : Int) := by unfold Tide.allN; omega
  rw [e]
  exact Tide.wrap_u64_nat _ (by omega)
set_option maxHeartbeats 400000 in
theorem cronAll (lo hi : Nat) (a b : Value) (w : World) (h1 : lo ≤ hi) (h2 : hi ≤ 60) : Calls Tryd.prog 40 #[.agg #[a, .int .i64 lo, .int .i64 hi, b]] w fun e w' => e = .returned (.int .u64 (Tide.allN lo hi : Nat)) ∧ Below w.heap.size w w' := by
  have he := Lib.hid (all_eq h1 h2)
  have l0 : (0 : Int) ≤ (lo : Int) := by omega
  have l1 : (lo : Int) ≤ 60 := by omega
  have l2 : (hi : Int) ≤ 60 := by omega
  go_enter Tryd.func40, Tryd.ntmps40
  go_wp2
  go_quiet (fail)
  go_wp2
  go_ret
  refine ⟨?_, by exact ⟨rfl, rfl, rfl, by simp, fun k hk => Below.heap_alloc w _ k hk⟩⟩
  rw [← he.out]
  first | rfl | (simp; done)

/-- the table of fields of the cron in block g -/
def fieldCells (g : Nat) : Array Value := #[.pointer (some ⟨g, 0, none⟩), .int .i64 0, .int .i64 59, .pointer none,
  .pointer (some ⟨g, 1, none⟩), .int .i64 0, .int .i64 23, .pointer none,
  .pointer (some ⟨g, 2, none⟩), .int .i64 1, .int .i64 31, .pointer (some ⟨g, 5, none⟩),
  .pointer (some ⟨g, 3, none⟩), .int .i64 1, .int .i64 12, .pointer none,
  .pointer (some ⟨g, 4, none⟩), .int .i64 0, .int .i64 6, .pointer (some ⟨g, 6, none⟩)]
def FieldsPost (w0 : World) (g : Nat) (e : Ending) (w' : World) : Prop := ∃ h, e = .returned (.slice (some ⟨h, 0, none⟩) 5 5) ∧ w0.heap.size ≤ h ∧ Tide.At w' h 61 (fieldCells g) ∧ Below w0.heap.size w0 w'
set_option maxRecDepth 100000 in
set_option maxHeartbeats 800000 in
theorem cronFields (g : Nat) (w : World) (c : Array Value) (hc : Tide.At w g 24 c) (hsz : c.size = 7) : Calls Tryd.prog 27 #[.pointer (some ⟨g, 0, none⟩)] w (FieldsPost w g) := by
  go_enter Tryd.func27, Tryd.ntmps27
  go_wp2_with fail
  go_region
  all_goals
    go_wp2_with fail
    go_ret
    exact ⟨_, rfl, Nat.le_refl _, (Tide.At.made w _ _).drew, ((Below.refl _ _).alloc (Nat.le_refl _) _).drew⟩
end Go.Proofs.YthelnkoohbnjpaaDoor


namespace Go.Proofs.YthelnkoohbnjpaaDoor
open Go.RowKit
set_option linter.unusedVariables false
set_option linter.unusedSimpArgs false

/-- a cron as plain data: five sets, whether any day, any day of the week -/
structure Cr where
  mi : Nat
  h : Nat
  d : Nat
  mo : Nat
  wk : Nat
  ad : Bool
  aw : Bool
def Cr.cells (c : Cr) : Array Value := #[.int .u64 (c.mi : Int), .int .u64 (c.h : Int), .int .u64 (c.d : Int), .int .u64 (c.mo : Int), .int .u64 (c.wk : Int), .bool c.ad, .bool c.aw]
/-- the sets are words of 64 bits -/
def Cr.fits (c : Cr) : Prop := c.mi < 18446744073709551616 ∧ c.h < 18446744073709551616 ∧ c.d < 18446744073709551616 ∧ c.mo < 18446744073709551616 ∧ c.wk < 18446744073709551616
def Cr.okAt (c : Cr) : Nat → Bool
  | 0 => Tide.okField c.mi 0 59 false
  | 1 => Tide.okField c.h 0 23 false
  | 2 => Tide.okField c.d 1 31 c.ad
  | 3 => Tide.okField c.mo 1 12 false
  | _ => Tide.okField c.wk 0 6 c.aw
def Cr.ok (c : Cr) : Bool := c.okAt 0 && c.okAt 1 && c.okAt 2 && c.okAt 3 && c.okAt 4
def Cr.err (c : Cr) : Int := if c.ok then 0 else 1
theorem Cr.err_no {c : Cr} (h : c.ok = false) : c.err = 1 := by unfold Cr.err; rw [h]; rfl
theorem Cr.err_yes {c : Cr} (h : c.ok = true) : c.err = 0 := by unfold Cr.err; rw [h]; rfl
theorem Cr.ok_of {c : Cr} (h : ∀ i, i < 5 → c.okAt i = true) : c.ok = true := by
  unfold Cr.ok; rw [h 0 (by omega), h 1 (by omega), h 2 (by omega), h 3 (by omega), h 4 (by omega)]; rfl
theorem Cr.ok_at {c : Cr} (h : c.ok = true) (i : Nat) (hi : i < 5) : c.okAt i = true := by
  unfold Cr.ok at h
  simp only [Bool.and_eq_true] at h
  obtain ⟨⟨⟨⟨h0, h1⟩, h2⟩, h3⟩, h4⟩ := h
  match i, hi with
  | 0, _ => exact h0
  | 1, _ => exact h1
  | 2, _ => exact h2
  | 3, _ => exact h3
  | 4, _ => exact h4
theorem Cr.not_ok {c : Cr} (i : Nat) (hi : i < 5) (h : c.okAt i = false) : c.ok = false := by
  cases hc : c.ok with
  | false => rfl
  | true => rw [Cr.ok_at hc i hi] at h; cases h

/-- the row of a field -/
theorem field_row {c : Cr} (hf : c.fits) {w : World} {g h : Nat} (hg : Tide.At w g 24 c.cells) (hh : Tide.At w h 61 (fieldCells g)) (j : Nat) (hj : j < 5) :
    ∃ (s lo hi si : Nat) (ap : Option Nat) (b : Bool), lo ≤ hi ∧ hi ≤ 60 ∧ s < 18446744073709551616 ∧ c.okAt j = Tide.okField s lo hi (ap.isSome && b) ∧
      w.cell? ⟨h, j * 4, none⟩ = some (.pointer (some ⟨g, si, none⟩)) ∧ w.cell? ⟨h, j * 4 + 1, none⟩ = some (.int .i64 lo) ∧ w.cell? ⟨h, j * 4 + 2, none⟩ = some (.int .i64 hi) ∧
      w.cell? ⟨h, j * 4 + 3, none⟩ = some (.pointer (ap.map fun a => ⟨g, a, none⟩)) ∧ w.cell? ⟨g, si, none⟩ = some (.int .u64 (s : Int)) ∧ (∀ a, ap = some a → w.cell? ⟨g, a, none⟩ = some (.bool b)) := by
  obtain ⟨f0, f1, f2, f3, f4⟩ := hf
  match j, hj with
  | 0, _ => exact ⟨c.mi, 0, 59, 0, none, false, by omega, by omega, f0, rfl, hh.here rfl, hh.here rfl, hh.here rfl, hh.here rfl, hg.here rfl, fun a h => by cases h⟩
  | 1, _ => exact ⟨c.h, 0, 23, 1, none, false, by omega, by omega, f1, rfl, hh.here rfl, hh.here rfl, hh.here rfl, hh.here rfl, hg.here rfl, fun a h => by cases h⟩
  | 2, _ => exact ⟨c.d, 1, 31, 2, some 5, c.ad, by omega, by omega, f2, rfl, hh.here rfl, hh.here rfl, hh.here rfl, hh.here rfl, hg.here rfl, fun a h => by cases h; exact hg.here rfl⟩
  | 3, _ => exact ⟨c.mo, 1, 12, 3, none, false, by omega, by omega, f3, rfl, hh.here rfl, hh.here rfl, hh.here rfl, hh.here rfl, hg.here rfl, fun a h => by cases h⟩
  | 4, _ => exact ⟨c.wk, 0, 6, 4, some 6, c.aw, by omega, by omega, f4, rfl, hh.here rfl, hh.here rfl, hh.here rfl, hh.here rfl, hg.here rfl, fun a h => by cases h; exact hg.here rfl⟩

/-- what the region of a field reads -/
def RegS (H g si s lo hi : Nat) (v3 : Value) (ax : Nat) (vx : Value) (W : World) : Prop := W.cell? ⟨H, 0, none⟩ = some (.pointer (some ⟨g, si, none⟩)) ∧ W.cell? ⟨H, 1, none⟩ = some (.int .i64 lo) ∧ W.cell? ⟨H, 2, none⟩ = some (.int .i64 hi) ∧ W.cell? ⟨H, 3, none⟩ = some v3 ∧ W.cell? ⟨g, si, none⟩ = some (.int .u64 (s : Int)) ∧ W.cell? ⟨g, ax, none⟩ = some vx

/-- 'all', with what the region around it reads -/
theorem all_keep (lo hi : Nat) (a b : Value) (w : World) (h1 : lo ≤ hi) (h2 : hi ≤ 60) (p0 p1 p2 p3 p4 p5 : Addr) (v0 v1 v2 v3 v4 v5 : Value) (q0 : w.cell? p0 = some v0) (q1 : w.cell? p1 = some v1) (q2 : w.cell? p2 = some v2) (q3 : w.cell? p3 = some v3) (q4 : w.cell? p4 = some v4) (q5 : w.cell? p5 = some v5) :
    Calls Tryd.prog 40 #[.agg #[a, .int .i64 lo, .int .i64 hi, b]] w fun e w' => e = .returned (.int .u64 (Tide.allN lo hi : Nat)) ∧ w'.cell? p0 = some v0 ∧ w'.cell? p1 = some v1 ∧ w'.cell? p2 = some v2 ∧ w'.cell? p3 = some v3 ∧ w'.cell? p4 = some v4 ∧ w'.cell? p5 = some v5 ∧ Below w.heap.size w w' :=
  (cronAll lo hi a b w h1 h2).mono fun _ _ ⟨he, hb⟩ => ⟨he, (hb.cell (World.block_lt_of_cell? w _ q0)).trans q0, (hb.cell (World.block_lt_of_cell? w _ q1)).trans q1, (hb.cell (World.block_lt_of_cell? w _ q2)).trans q2, (hb.cell (World.block_lt_of_cell? w _ q3)).trans q3, (hb.cell (World.block_lt_of_cell? w _ q4)).trans q4, (hb.cell (World.block_lt_of_cell? w _ q5)).trans q5, hb⟩

set_option maxRecDepth 100000 in
set_option maxHeartbeats 20000000 in
theorem cronCheck (c : Cr) (hf : c.fits) (w : World) : Calls Tryd.prog 16 #[.agg c.cells] w fun e w' => e = .returned (.int .i64 c.err) ∧ Below w.heap.size w w' := by
  go_enter Tryd.func16, Tryd.ntmps16
  go_wp2_with fail
  refine (cronFields w.heap.size _ c.cells (Tide.At.made w _ _) rfl).mono ?_
  rintro e w1 ⟨h, rfl, hh, hA, hb⟩
  have hcr : Tide.At w1 w.heap.size 24 c.cells := (Tide.At.made w _ _).below hb (by simp)
  have hbw : Below w.heap.size w w1 := ((Below.refl _ _).alloc (Nat.le_refl _) _).trans (hb.mono (by simp))
  have hh' : w.heap.size ≤ h := by have := hh; simp at this; omega
  have HA := Lib.hid hA; have HC := Lib.hid hcr; have HF := Lib.hid hf
  clear hb hh hA hcr hf
  go_wp2_with fail
  go_loopw [7] (fun i wr => ∃ j : Nat, j ≤ 5 ∧ i = .int .i64 j ∧ Hid (∀ k, k < j → c.okAt k = true) ∧ Below w1.heap.size w1 wr) (fun i _ => 5 - (intOf i).toNat)
  case atStart => exact ⟨0, by omega, rfl, fun k hk => by omega, Below.refl _ _⟩
  case round =>
    obtain ⟨j, hj, rfl, hok, hbr⟩ := hrel
    by_cases hlt : j < 5
    · obtain ⟨s, lo, hi, si, ap, b, l0, l1, l2, heq, q0, q1, q2, q3, q4, q5⟩ := field_row HF.out (HC.out.below hbr HC.out.inside) (HA.out.below hbr HA.out.inside) j hlt
      have hj0 : (0 : Int) ≤ (j : Int) := by omega
      have hj1 : (j : Int) < 5 := by omega
      have HE := Lib.hid heq; have HQ := Lib.hid q5; have HL := Lib.hid l2
      clear heq q5 l2
      have hzz : w.heap.size < wr.heap.size := Nat.lt_of_lt_of_le HC.out.inside hbr.size
      by_cases hs : s = 0
      · have hs' : ((s : Int) == 0) = true := by simp [hs]
        have hno : c.okAt j = false := by rw [HE.out]; unfold Tide.okField; rw [hs']; rfl
        have hfin := Lib.hid (Cr.err_no (Cr.not_ok j hlt hno))
        clear hs hno
        go_wp2_with fail
        go_quiet (fail)
        go_wp2_with fail
        go_ret
        refine ⟨ret_int hfin.out.symm, ?_⟩
        exact below_drewN ((hbw.trans (hbr.mono hbw.size)).alloc (Nat.le_trans hbw.size hbr.size) _) _
      · have hs' : ((s : Int) == 0) = false := by simp; omega
        by_cases hn : bits .andNot .u64 (s : Int) (Tide.allN lo hi : Nat) = 0
        · have hn' : (bits .andNot .u64 (s : Int) (Tide.allN lo hi : Nat) != 0) = false := by simp [hn]
          have hn'' : (bits .andNot .u64 (s : Int) (Tide.allN lo hi : Nat) == 0) = true := by simp [hn]
          have heq := HE.out
          unfold Tide.okField at heq
          rw [hs', hn''] at heq
          have HE2 := Lib.hid heq
          clear hs hn hn'' heq
          cases ap with
          | none =>
            simp only [Option.map_none] at q3
            have hbox := (Tide.At.made wr 61 #[.pointer (some ⟨w.heap.size, si, none⟩), .int .i64 lo, .int .i64 hi, .pointer none]).drew
            have hset : ((wr.alloc (.cells #[.pointer (some ⟨w.heap.size, si, none⟩), .int .i64 lo, .int .i64 hi, .pointer none] 61)).drew).cell? ⟨w.heap.size, si, none⟩ = some (.int .u64 (s : Int)) := (World.cell?_alloc_lt wr _ _ hzz).trans q4
            have hax : ((wr.alloc (.cells #[.pointer (some ⟨w.heap.size, si, none⟩), .int .i64 lo, .int .i64 hi, .pointer none] 61)).drew).cell? ⟨w.heap.size, si, none⟩ = some (.int .u64 (s : Int)) := (World.cell?_alloc_lt wr _ _ hzz).trans q4
            have hall := Lib.hid (fun W => all_keep lo hi (.pointer (some ⟨w.heap.size, si, none⟩)) (.pointer none) W l0 l1 ⟨wr.heap.size, 0, none⟩ ⟨wr.heap.size, 1, none⟩ ⟨wr.heap.size, 2, none⟩ ⟨wr.heap.size, 3, none⟩ ⟨w.heap.size, si, none⟩ ⟨w.heap.size, si, none⟩)
            have HS0 := Lib.hid (show RegS wr.heap.size w.heap.size si s lo hi (.pointer none) (si) (.int .u64 (s : Int)) _ from ⟨hbox.here (i := 0) rfl, hbox.here (i := 1) rfl, hbox.here (i := 2) rfl, hbox.here (i := 3) rfl, hset, hax⟩)
            clear hbox hset hax
            go_wp2_with fail
            have hS : (RegS wr.heap.size w.heap.size si s lo hi (.pointer none) (si) (.int .u64 (s : Int))) ((wr.alloc (.cells #[.pointer (some ⟨w.heap.size, si, none⟩), .int .i64 lo, .int .i64 hi, .pointer none] 61)).drew) := HS0.out
            refine wp_region_held_drew (S := (RegS wr.heap.size w.heap.size si s lo hi (.pointer none) (si) (.int .u64 (s : Int)))) (by kernel_rfl) hS (fun _ => ?_)
            change wpAnyH _ _ _ _ _ 35 #[false, false, false, false, false, false, false, false, false, false, false, false, false, false, false, false, false, false, false, false, false, false, false, false, false, false, false, false, false, false, false, false, false, false, false] _ (World.drew _)
            refine wpAnyH_take (i := 0) (v := .pointer (some ⟨wr.heap.size, 0, none⟩)) rfl (by kernel_rfl) (by kernel_rfl) (by kernel_rfl) (fun _ _ _ h => h) (.inl ⟨by rfl, fun W hW => ?_⟩) hS ?_
            · obtain ⟨z0, z1, z2, z3, z4, z5⟩ := hW; go_simp
            simp only [Act.put, List.getElem_toArray, List.getElem_cons_succ, List.getElem_cons_zero, List.setIfInBounds_toArray, List.set_cons_zero, List.set_cons_succ]
            refine wpAnyH_take (i := 1) (v := .pointer (some ⟨w.heap.size, si, none⟩)) rfl (by kernel_rfl) (by kernel_rfl) (by kernel_rfl) (fun _ _ _ h => h) (.inl ⟨by rfl, fun W hW => ?_⟩) hS ?_
            · obtain ⟨z0, z1, z2, z3, z4, z5⟩ := hW; go_simp
            simp only [Act.put, List.getElem_toArray, List.getElem_cons_succ, List.getElem_cons_zero, List.setIfInBounds_toArray, List.set_cons_zero, List.set_cons_succ]
            refine wpAnyH_take (i := 2) (v := .pointer (some ⟨w.heap.size, si, none⟩)) rfl (by kernel_rfl) (by kernel_rfl) (by kernel_rfl) (fun _ _ _ h => h) (.inl ⟨by rfl, fun W hW => ?_⟩) hS ?_
            · obtain ⟨z0, z1, z2, z3, z4, z5⟩ := hW; go_simp
            simp only [Act.put, List.getElem_toArray, List.getElem_cons_succ, List.getElem_cons_zero, List.setIfInBounds_toArray, List.set_cons_zero, List.set_cons_succ]
            refine wpAnyH_take (i := 3) (v := .int .u64 (s : Int)) rfl (by kernel_rfl) (by kernel_rfl) (by kernel_rfl) (fun _ _ _ h => h) (.inl ⟨by rfl, fun W hW => ?_⟩) hS ?_
            · obtain ⟨z0, z1, z2, z3, z4, z5⟩ := hW; go_simp
            simp only [Act.put, List.getElem_toArray, List.getElem_cons_succ, List.getElem_cons_zero, List.setIfInBounds_toArray, List.set_cons_zero, List.set_cons_succ]
            refine wpAnyH_take (i := 4) (v := .bool false) rfl (by kernel_rfl) (by kernel_rfl) (by kernel_rfl) (fun _ _ _ h => h) (.inl ⟨by rfl, fun W hW => ?_⟩) hS ?_
            · obtain ⟨z0, z1, z2, z3, z4, z5⟩ := hW; go_simp
            simp only [Act.put, List.getElem_toArray, List.getElem_cons_succ, List.getElem_cons_zero, List.setIfInBounds_toArray, List.set_cons_zero, List.set_cons_succ]
            refine wpAnyH_take (i := 5) (v := .bool false) rfl (by kernel_rfl) (by kernel_rfl) (by kernel_rfl) (fun _ _ _ h => h) (.inl ⟨by rfl, fun W hW => ?_⟩) hS ?_
            · obtain ⟨z0, z1, z2, z3, z4, z5⟩ := hW; go_simp
            simp only [Act.put, List.getElem_toArray, List.getElem_cons_succ, List.getElem_cons_zero, List.setIfInBounds_toArray, List.set_cons_zero, List.set_cons_succ]
            refine wpAnyH_take (i := 6) (v := .pointer (some ⟨wr.heap.size, 0, none⟩)) rfl (by kernel_rfl) (by kernel_rfl) (by kernel_rfl) (fun _ _ _ h => h) (.inl ⟨by rfl, fun W hW => ?_⟩) hS ?_
            · obtain ⟨z0, z1, z2, z3, z4, z5⟩ := hW; go_simp
            simp only [Act.put, List.getElem_toArray, List.getElem_cons_succ, List.getElem_cons_zero, List.setIfInBounds_toArray, List.set_cons_zero, List.set_cons_succ]
            refine wpAnyH_take (i := 7) (v := .pointer (some ⟨w.heap.size, si, none⟩)) rfl (by kernel_rfl) (by kernel_rfl) (by kernel_rfl) (fun _ _ _ h => h) (.inl ⟨by rfl, fun W hW => ?_⟩) hS ?_
            · obtain ⟨z0, z1, z2, z3, z4, z5⟩ := hW; go_simp
            simp only [Act.put, List.getElem_toArray, List.getElem_cons_succ, List.getElem_cons_zero, List.setIfInBounds_toArray, List.set_cons_zero, List.set_cons_succ]
            refine wpAnyH_take (i := 8) (v := .pointer (some ⟨w.heap.size, si, none⟩)) rfl (by kernel_rfl) (by kernel_rfl) (by kernel_rfl) (fun _ _ _ h => h) (.inl ⟨by rfl, fun W hW => ?_⟩) hS ?_
            · obtain ⟨z0, z1, z2, z3, z4, z5⟩ := hW; go_simp
            simp only [Act.put, List.getElem_toArray, List.getElem_cons_succ, List.getElem_cons_zero, List.setIfInBounds_toArray, List.set_cons_zero, List.set_cons_succ]
            refine wpAnyH_take (i := 9) (v := .int .u64 (s : Int)) rfl (by kernel_rfl) (by kernel_rfl) (by kernel_rfl) (fun _ _ _ h => h) (.inl ⟨by rfl, fun W hW => ?_⟩) hS ?_
            · obtain ⟨z0, z1, z2, z3, z4, z5⟩ := hW; go_simp
            simp only [Act.put, List.getElem_toArray, List.getElem_cons_succ, List.getElem_cons_zero, List.setIfInBounds_toArray, List.set_cons_zero, List.set_cons_succ]
            refine wpAnyH_take (i := 10) (v := .agg #[.pointer (some ⟨w.heap.size, si, none⟩), .int .i64 lo, .int .i64 hi, .pointer none]) rfl (by kernel_rfl) (by kernel_rfl) (by kernel_rfl) (fun _ _ _ h => h) (.inl ⟨by rfl, fun W hW => ?_⟩) hS ?_
            · obtain ⟨z0, z1, z2, z3, z4, z5⟩ := hW; go_simp
            simp only [Act.put, List.getElem_toArray, List.getElem_cons_succ, List.getElem_cons_zero, List.setIfInBounds_toArray, List.set_cons_zero, List.set_cons_succ]
            refine wpAnyH_ready (rs := [11]) (by kernel_rfl) (by simp) (AllReadyH.cons rfl (fun K hK => ?_) AllReadyH.nil)
            go_simp
            refine (hall.out _ _ _ _ _ _ _ hS.1 hS.2.1 hS.2.2.1 hS.2.2.2.1 hS.2.2.2.2.1 hS.2.2.2.2.2).mono ?_
            rintro e w2 ⟨rfl, y0, y1, y2, y3, y4, y5, hbb2⟩
            have hS2 : (RegS wr.heap.size w.heap.size si s lo hi (.pointer none) (si) (.int .u64 (s : Int))) w2 := ⟨y0, y1, y2, y3, y4, y5⟩
            clear y0 y1 y2 y3 y4 y5
            go_wp2_with fail
            refine hK.out _ _ hS2 (fun _ => ?_)
            clear hK K
            refine wpAnyH_take (i := 12) (v := .int .u64 (bits .andNot .u64 (s : Int) (Tide.allN lo hi : Nat))) rfl (by kernel_rfl) (by kernel_rfl) (by kernel_rfl) (fun _ _ _ h => h) (.inl ⟨by rfl, fun W hW => ?_⟩) hS2 ?_
            · obtain ⟨z0, z1, z2, z3, z4, z5⟩ := hW; go_simp
            simp only [Act.put, List.getElem_toArray, List.getElem_cons_succ, List.getElem_cons_zero, List.setIfInBounds_toArray, List.set_cons_zero, List.set_cons_succ]
            refine wpAnyH_take (i := 13) (v := .bool false) rfl (by kernel_rfl) (by kernel_rfl) (by kernel_rfl) (fun _ _ _ h => h) (.inl ⟨by rfl, fun W hW => ?_⟩) hS2 ?_
            · obtain ⟨z0, z1, z2, z3, z4, z5⟩ := hW; go_simp
            simp only [Act.put, List.getElem_toArray, List.getElem_cons_succ, List.getElem_cons_zero, List.setIfInBounds_toArray, List.set_cons_zero, List.set_cons_succ]
            refine wpAnyH_take (i := 14) (v := .bool false) rfl (by kernel_rfl) (by kernel_rfl) (by kernel_rfl) (fun _ _ _ h => h) (.inl ⟨by rfl, fun W hW => ?_⟩) hS2 ?_
            · obtain ⟨z0, z1, z2, z3, z4, z5⟩ := hW; go_simp
            simp only [Act.put, List.getElem_toArray, List.getElem_cons_succ, List.getElem_cons_zero, List.setIfInBounds_toArray, List.set_cons_zero, List.set_cons_succ]
            refine wpAnyH_take (i := 15) (v := .bool false) rfl (by kernel_rfl) (by kernel_rfl) (by kernel_rfl) (fun _ _ _ h => h) (.inl ⟨by rfl, fun W hW => ?_⟩) hS2 ?_
            · obtain ⟨z0, z1, z2, z3, z4, z5⟩ := hW; go_simp
            simp only [Act.put, List.getElem_toArray, List.getElem_cons_succ, List.getElem_cons_zero, List.setIfInBounds_toArray, List.set_cons_zero, List.set_cons_succ]
            refine wpAnyH_take (i := 16) (v := .pointer (some ⟨wr.heap.size, 3, none⟩)) rfl (by kernel_rfl) (by kernel_rfl) (by kernel_rfl) (fun _ _ _ h => h) (.inl ⟨by rfl, fun W hW => ?_⟩) hS2 ?_
            · obtain ⟨z0, z1, z2, z3, z4, z5⟩ := hW; go_simp
            simp only [Act.put, List.getElem_toArray, List.getElem_cons_succ, List.getElem_cons_zero, List.setIfInBounds_toArray, List.set_cons_zero, List.set_cons_succ]
            refine wpAnyH_take (i := 17) (v := .pointer none) rfl (by kernel_rfl) (by kernel_rfl) (by kernel_rfl) (fun _ _ _ h => h) (.inl ⟨by rfl, fun W hW => ?_⟩) hS2 ?_
            · obtain ⟨z0, z1, z2, z3, z4, z5⟩ := hW; go_simp
            simp only [Act.put, List.getElem_toArray, List.getElem_cons_succ, List.getElem_cons_zero, List.setIfInBounds_toArray, List.set_cons_zero, List.set_cons_succ]
            refine wpAnyH_take (i := 18) (v := .bool false) rfl (by kernel_rfl) (by kernel_rfl) (by kernel_rfl) (fun _ _ _ h => h) (.inl ⟨by rfl, fun W hW => ?_⟩) hS2 ?_
            · obtain ⟨z0, z1, z2, z3, z4, z5⟩ := hW; go_simp
            simp only [Act.put, List.getElem_toArray, List.getElem_cons_succ, List.getElem_cons_zero, List.setIfInBounds_toArray, List.set_cons_zero, List.set_cons_succ]
            refine wpAnyH_take (i := 19) (v := .bool false) rfl (by kernel_rfl) (by kernel_rfl) (by kernel_rfl) (fun _ _ _ h => h) (.inl ⟨by rfl, fun W hW => ?_⟩) hS2 ?_
            · obtain ⟨z0, z1, z2, z3, z4, z5⟩ := hW; go_simp
            simp only [Act.put, List.getElem_toArray, List.getElem_cons_succ, List.getElem_cons_zero, List.setIfInBounds_toArray, List.set_cons_zero, List.set_cons_succ]
            refine wpAnyH_take (i := 20) (v := undef) rfl (by kernel_rfl) (by kernel_rfl) (by kernel_rfl) (fun _ _ _ h => h) (.inr ⟨by rfl, rfl⟩) hS2 ?_
            simp only [Act.put, List.getElem_toArray, List.getElem_cons_succ, List.getElem_cons_zero, List.setIfInBounds_toArray, List.set_cons_zero, List.set_cons_succ]
            refine wpAnyH_take (i := 21) (v := undef) rfl (by kernel_rfl) (by kernel_rfl) (by kernel_rfl) (fun _ _ _ h => h) (.inr ⟨by rfl, rfl⟩) hS2 ?_
            simp only [Act.put, List.getElem_toArray, List.getElem_cons_succ, List.getElem_cons_zero, List.setIfInBounds_toArray, List.set_cons_zero, List.set_cons_succ]
            refine wpAnyH_take (i := 22) (v := undef) rfl (by kernel_rfl) (by kernel_rfl) (by kernel_rfl) (fun _ _ _ h => h) (.inr ⟨by rfl, rfl⟩) hS2 ?_
            simp only [Act.put, List.getElem_toArray, List.getElem_cons_succ, List.getElem_cons_zero, List.setIfInBounds_toArray, List.set_cons_zero, List.set_cons_succ]
            refine wpAnyH_take (i := 23) (v := undef) rfl (by kernel_rfl) (by kernel_rfl) (by kernel_rfl) (fun _ _ _ h => h) (.inr ⟨by rfl, rfl⟩) hS2 ?_
            simp only [Act.put, List.getElem_toArray, List.getElem_cons_succ, List.getElem_cons_zero, List.setIfInBounds_toArray, List.set_cons_zero, List.set_cons_succ]
            refine wpAnyH_take (i := 24) (v := .bool false) rfl (by kernel_rfl) (by kernel_rfl) (by kernel_rfl) (fun _ _ _ h => h) (.inl ⟨by rfl, fun W hW => ?_⟩) hS2 ?_
            · obtain ⟨z0, z1, z2, z3, z4, z5⟩ := hW; go_simp
            simp only [Act.put, List.getElem_toArray, List.getElem_cons_succ, List.getElem_cons_zero, List.setIfInBounds_toArray, List.set_cons_zero, List.set_cons_succ]
            refine wpAnyH_take (i := 25) (v := .bool false) rfl (by kernel_rfl) (by kernel_rfl) (by kernel_rfl) (fun _ _ _ h => h) (.inl ⟨by rfl, fun W hW => ?_⟩) hS2 ?_
            · obtain ⟨z0, z1, z2, z3, z4, z5⟩ := hW; go_simp
            simp only [Act.put, List.getElem_toArray, List.getElem_cons_succ, List.getElem_cons_zero, List.setIfInBounds_toArray, List.set_cons_zero, List.set_cons_succ]
            refine wpAnyH_take (i := 26) (v := undef) rfl (by kernel_rfl) (by kernel_rfl) (by kernel_rfl) (fun _ _ _ h => h) (.inr ⟨by rfl, rfl⟩) hS2 ?_
            simp only [Act.put, List.getElem_toArray, List.getElem_cons_succ, List.getElem_cons_zero, List.setIfInBounds_toArray, List.set_cons_zero, List.set_cons_succ]
            refine wpAnyH_take (i := 27) (v := undef) rfl (by kernel_rfl) (by kernel_rfl) (by kernel_rfl) (fun _ _ _ h => h) (.inr ⟨by rfl, rfl⟩) hS2 ?_
            simp only [Act.put, List.getElem_toArray, List.getElem_cons_succ, List.getElem_cons_zero, List.setIfInBounds_toArray, List.set_cons_zero, List.set_cons_succ]
            refine wpAnyH_take (i := 28) (v := undef) rfl (by kernel_rfl) (by kernel_rfl) (by kernel_rfl) (fun _ _ _ h => h) (.inr ⟨by rfl, rfl⟩) hS2 ?_
            simp only [Act.put, List.getElem_toArray, List.getElem_cons_succ, List.getElem_cons_zero, List.setIfInBounds_toArray, List.set_cons_zero, List.set_cons_succ]
            refine wpAnyH_take (i := 29) (v := undef) rfl (by kernel_rfl) (by kernel_rfl) (by kernel_rfl) (fun _ _ _ h => h) (.inr ⟨by rfl, rfl⟩) hS2 ?_
            simp only [Act.put, List.getElem_toArray, List.getElem_cons_succ, List.getElem_cons_zero, List.setIfInBounds_toArray, List.set_cons_zero, List.set_cons_succ]
            refine wpAnyH_take (i := 30) (v := undef) rfl (by kernel_rfl) (by kernel_rfl) (by kernel_rfl) (fun _ _ _ h => h) (.inr ⟨by rfl, rfl⟩) hS2 ?_
            simp only [Act.put, List.getElem_toArray, List.getElem_cons_succ, List.getElem_cons_zero, List.setIfInBounds_toArray, List.set_cons_zero, List.set_cons_succ]
            refine wpAnyH_take (i := 31) (v := undef) rfl (by kernel_rfl) (by kernel_rfl) (by kernel_rfl) (fun _ _ _ h => h) (.inr ⟨by rfl, rfl⟩) hS2 ?_
            simp only [Act.put, List.getElem_toArray, List.getElem_cons_succ, List.getElem_cons_zero, List.setIfInBounds_toArray, List.set_cons_zero, List.set_cons_succ]
            refine wpAnyH_take (i := 32) (v := undef) rfl (by kernel_rfl) (by kernel_rfl) (by kernel_rfl) (fun _ _ _ h => h) (.inr ⟨by rfl, rfl⟩) hS2 ?_
            simp only [Act.put, List.getElem_toArray, List.getElem_cons_succ, List.getElem_cons_zero, List.setIfInBounds_toArray, List.set_cons_zero, List.set_cons_succ]
            refine wpAnyH_take (i := 33) (v := .bool false) rfl (by kernel_rfl) (by kernel_rfl) (by kernel_rfl) (fun _ _ _ h => h) (.inl ⟨by rfl, fun W hW => ?_⟩) hS2 ?_
            · obtain ⟨z0, z1, z2, z3, z4, z5⟩ := hW; go_simp
            simp only [Act.put, List.getElem_toArray, List.getElem_cons_succ, List.getElem_cons_zero, List.setIfInBounds_toArray, List.set_cons_zero, List.set_cons_succ]
            refine wpAnyH_take (i := 34) (v := .bool false) rfl (by kernel_rfl) (by kernel_rfl) (by kernel_rfl) (fun _ _ _ h => h) (.inl ⟨by rfl, fun W hW => ?_⟩) hS2 ?_
            · obtain ⟨z0, z1, z2, z3, z4, z5⟩ := hW; go_simp
            simp only [Act.put, List.getElem_toArray, List.getElem_cons_succ, List.getElem_cons_zero, List.setIfInBounds_toArray, List.set_cons_zero, List.set_cons_succ]
            refine wpAnyH_done (by kernel_rfl) ?_ _
            have hyes : c.okAt j = true := by rw [HE2.out]; rfl
            have hok2 := Lib.hid (show ∀ k, k < j + 1 → c.okAt k = true from fun k hk => by rcases Nat.lt_succ_iff_lt_or_eq.mp hk with h | h; · exact hok.out k h
                                                                                            · rw [h]; exact hyes)
            clear hok hyes HE2
            go_wp2_with fail
            refine ⟨⟨j + 1, hlt, by simp, hok2, ((hbr.alloc hbr.size _).drew).trans (hbb2.mono (Nat.le_trans hbr.size (by simp)))⟩, by simp only [intOf]; omega⟩
          | some a =>
            simp only [Option.map_some] at q3
            have q6 := HQ.out a rfl
            clear HQ
            cases b with
            | false =>
              have hbox := (Tide.At.made wr 61 #[.pointer (some ⟨w.heap.size, si, none⟩), .int .i64 lo, .int .i64 hi, .pointer (some ⟨w.heap.size, a, none⟩)]).drew
              have hset : ((wr.alloc (.cells #[.pointer (some ⟨w.heap.size, si, none⟩), .int .i64 lo, .int .i64 hi, .pointer (some ⟨w.heap.size, a, none⟩)] 61)).drew).cell? ⟨w.heap.size, si, none⟩ = some (.int .u64 (s : Int)) := (World.cell?_alloc_lt wr _ _ hzz).trans q4
              have hax : ((wr.alloc (.cells #[.pointer (some ⟨w.heap.size, si, none⟩), .int .i64 lo, .int .i64 hi, .pointer (some ⟨w.heap.size, a, none⟩)] 61)).drew).cell? ⟨w.heap.size, a, none⟩ = some (.bool false) := (World.cell?_alloc_lt wr _ _ hzz).trans q6
              have hall := Lib.hid (fun W => all_keep lo hi (.pointer (some ⟨w.heap.size, si, none⟩)) (.pointer (some ⟨w.heap.size, a, none⟩)) W l0 l1 ⟨wr.heap.size, 0, none⟩ ⟨wr.heap.size, 1, none⟩ ⟨wr.heap.size, 2, none⟩ ⟨wr.heap.size, 3, none⟩ ⟨w.heap.size, si, none⟩ ⟨w.heap.size, a, none⟩)
              have HS0 := Lib.hid (show RegS wr.heap.size w.heap.size si s lo hi (.pointer (some ⟨w.heap.size, a, none⟩)) (a) (.bool false) _ from ⟨hbox.here (i := 0) rfl, hbox.here (i := 1) rfl, hbox.here (i := 2) rfl, hbox.here (i := 3) rfl, hset, hax⟩)
              clear hbox hset hax
              go_wp2_with fail
              have hS : (RegS wr.heap.size w.heap.size si s lo hi (.pointer (some ⟨w.heap.size, a, none⟩)) (a) (.bool false)) ((wr.alloc (.cells #[.pointer (some ⟨w.heap.size, si, none⟩), .int .i64 lo, .int .i64 hi, .pointer (some ⟨w.heap.size, a, none⟩)] 61)).drew) := HS0.out
              refine wp_region_held_drew (S := (RegS wr.heap.size w.heap.size si s lo hi (.pointer (some ⟨w.heap.size, a, none⟩)) (a) (.bool false))) (by kernel_rfl) hS (fun _ => ?_)
              change wpAnyH _ _ _ _ _ 35 #[false, false, false, false, false, false, false, false, false, false, false, false, false, false, false, false, false, false, false, false, false, false, false, false, false, false, false, false, false, false, false, false, false, false, false] _ (World.drew _)
              refine wpAnyH_take (i := 0) (v := .pointer (some ⟨wr.heap.size, 0, none⟩)) rfl (by kernel_rfl) (by kernel_rfl) (by kernel_rfl) (fun _ _ _ h => h) (.inl ⟨by rfl, fun W hW => ?_⟩) hS ?_
              · obtain ⟨z0, z1, z2, z3, z4, z5⟩ := hW; go_simp
              simp only [Act.put, List.getElem_toArray, List.getElem_cons_succ, List.getElem_cons_zero, List.setIfInBounds_toArray, List.set_cons_zero, List.set_cons_succ]
              refine wpAnyH_take (i := 1) (v := .pointer (some ⟨w.heap.size, si, none⟩)) rfl (by kernel_rfl) (by kernel_rfl) (by kernel_rfl) (fun _ _ _ h => h) (.inl ⟨by rfl, fun W hW => ?_⟩) hS ?_
              · obtain ⟨z0, z1, z2, z3, z4, z5⟩ := hW; go_simp
              simp only [Act.put, List.getElem_toArray, List.getElem_cons_succ, List.getElem_cons_zero, List.setIfInBounds_toArray, List.set_cons_zero, List.set_cons_succ]
              refine wpAnyH_take (i := 2) (v := .pointer (some ⟨w.heap.size, si, none⟩)) rfl (by kernel_rfl) (by kernel_rfl) (by kernel_rfl) (fun _ _ _ h => h) (.inl ⟨by rfl, fun W hW => ?_⟩) hS ?_
              · obtain ⟨z0, z1, z2, z3, z4, z5⟩ := hW; go_simp
              simp only [Act.put, List.getElem_toArray, List.getElem_cons_succ, List.getElem_cons_zero, List.setIfInBounds_toArray, List.set_cons_zero, List.set_cons_succ]
              refine wpAnyH_take (i := 3) (v := .int .u64 (s : Int)) rfl (by kernel_rfl) (by kernel_rfl) (by kernel_rfl) (fun _ _ _ h => h) (.inl ⟨by rfl, fun W hW => ?_⟩) hS ?_
              · obtain ⟨z0, z1, z2, z3, z4, z5⟩ := hW; go_simp
              simp only [Act.put, List.getElem_toArray, List.getElem_cons_succ, List.getElem_cons_zero, List.setIfInBounds_toArray, List.set_cons_zero, List.set_cons_succ]
              refine wpAnyH_take (i := 4) (v := .bool false) rfl (by kernel_rfl) (by kernel_rfl) (by kernel_rfl) (fun _ _ _ h => h) (.inl ⟨by rfl, fun W hW => ?_⟩) hS ?_
              · obtain ⟨z0, z1, z2, z3, z4, z5⟩ := hW; go_simp
              simp only [Act.put, List.getElem_toArray, List.getElem_cons_succ, List.getElem_cons_zero, List.setIfInBounds_toArray, List.set_cons_zero, List.set_cons_succ]
              refine wpAnyH_take (i := 5) (v := .bool false) rfl (by kernel_rfl) (by kernel_rfl) (by kernel_rfl) (fun _ _ _ h => h) (.inl ⟨by rfl, fun W hW => ?_⟩) hS ?_
              · obtain ⟨z0, z1, z2, z3, z4, z5⟩ := hW; go_simp
              simp only [Act.put, List.getElem_toArray, List.getElem_cons_succ, List.getElem_cons_zero, List.setIfInBounds_toArray, List.set_cons_zero, List.set_cons_succ]
              refine wpAnyH_take (i := 6) (v := .pointer (some ⟨wr.heap.size, 0, none⟩)) rfl (by kernel_rfl) (by kernel_rfl) (by kernel_rfl) (fun _ _ _ h => h) (.inl ⟨by rfl, fun W hW => ?_⟩) hS ?_
              · obtain ⟨z0, z1, z2, z3, z4, z5⟩ := hW; go_simp
              simp only [Act.put, List.getElem_toArray, List.getElem_cons_succ, List.getElem_cons_zero, List.setIfInBounds_toArray, List.set_cons_zero, List.set_cons_succ]
              refine wpAnyH_take (i := 7) (v := .pointer (some ⟨w.heap.size, si, none⟩)) rfl (by kernel_rfl) (by kernel_rfl) (by kernel_rfl) (fun _ _ _ h => h) (.inl ⟨by rfl, fun W hW => ?_⟩) hS ?_
              · obtain ⟨z0, z1, z2, z3, z4, z5⟩ := hW; go_simp
              simp only [Act.put, List.getElem_toArray, List.getElem_cons_succ, List.getElem_cons_zero, List.setIfInBounds_toArray, List.set_cons_zero, List.set_cons_succ]
              refine wpAnyH_take (i := 8) (v := .pointer (some ⟨w.heap.size, si, none⟩)) rfl (by kernel_rfl) (by kernel_rfl) (by kernel_rfl) (fun _ _ _ h => h) (.inl ⟨by rfl, fun W hW => ?_⟩) hS ?_
              · obtain ⟨z0, z1, z2, z3, z4, z5⟩ := hW; go_simp
              simp only [Act.put, List.getElem_toArray, List.getElem_cons_succ, List.getElem_cons_zero, List.setIfInBounds_toArray, List.set_cons_zero, List.set_cons_succ]
              refine wpAnyH_take (i := 9) (v := .int .u64 (s : Int)) rfl (by kernel_rfl) (by kernel_rfl) (by kernel_rfl) (fun _ _ _ h => h) (.inl ⟨by rfl, fun W hW => ?_⟩) hS ?_
              · obtain ⟨z0, z1, z2, z3, z4, z5⟩ := hW; go_simp
              simp only [Act.put, List.getElem_toArray, List.getElem_cons_succ, List.getElem_cons_zero, List.setIfInBounds_toArray, List.set_cons_zero, List.set_cons_succ]
              refine wpAnyH_take (i := 10) (v := .agg #[.pointer (some ⟨w.heap.size, si, none⟩), .int .i64 lo, .int .i64 hi, .pointer (some ⟨w.heap.size, a, none⟩)]) rfl (by kernel_rfl) (by kernel_rfl) (by kernel_rfl) (fun _ _ _ h => h) (.inl ⟨by rfl, fun W hW => ?_⟩) hS ?_
              · obtain ⟨z0, z1, z2, z3, z4, z5⟩ := hW; go_simp
              simp only [Act.put, List.getElem_toArray, List.getElem_cons_succ, List.getElem_cons_zero, List.setIfInBounds_toArray, List.set_cons_zero, List.set_cons_succ]
              refine wpAnyH_ready (rs := [11]) (by kernel_rfl) (by simp) (AllReadyH.cons rfl (fun K hK => ?_) AllReadyH.nil)
              go_simp
              refine (hall.out _ _ _ _ _ _ _ hS.1 hS.2.1 hS.2.2.1 hS.2.2.2.1 hS.2.2.2.2.1 hS.2.2.2.2.2).mono ?_
              rintro e w2 ⟨rfl, y0, y1, y2, y3, y4, y5, hbb2⟩
              have hS2 : (RegS wr.heap.size w.heap.size si s lo hi (.pointer (some ⟨w.heap.size, a, none⟩)) (a) (.bool false)) w2 := ⟨y0, y1, y2, y3, y4, y5⟩
              clear y0 y1 y2 y3 y4 y5
              go_wp2_with fail
              refine hK.out _ _ hS2 (fun _ => ?_)
              clear hK K
              refine wpAnyH_take (i := 12) (v := .int .u64 (bits .andNot .u64 (s : Int) (Tide.allN lo hi : Nat))) rfl (by kernel_rfl) (by kernel_rfl) (by kernel_rfl) (fun _ _ _ h => h) (.inl ⟨by rfl, fun W hW => ?_⟩) hS2 ?_
              · obtain ⟨z0, z1, z2, z3, z4, z5⟩ := hW; go_simp
              simp only [Act.put, List.getElem_toArray, List.getElem_cons_succ, List.getElem_cons_zero, List.setIfInBounds_toArray, List.set_cons_zero, List.set_cons_succ]
              refine wpAnyH_take (i := 13) (v := .bool false) rfl (by kernel_rfl) (by kernel_rfl) (by kernel_rfl) (fun _ _ _ h => h) (.inl ⟨by rfl, fun W hW => ?_⟩) hS2 ?_
              · obtain ⟨z0, z1, z2, z3, z4, z5⟩ := hW; go_simp
              simp only [Act.put, List.getElem_toArray, List.getElem_cons_succ, List.getElem_cons_zero, List.setIfInBounds_toArray, List.set_cons_zero, List.set_cons_succ]
              refine wpAnyH_take (i := 14) (v := .bool false) rfl (by kernel_rfl) (by kernel_rfl) (by kernel_rfl) (fun _ _ _ h => h) (.inl ⟨by rfl, fun W hW => ?_⟩) hS2 ?_
              · obtain ⟨z0, z1, z2, z3, z4, z5⟩ := hW; go_simp
              simp only [Act.put, List.getElem_toArray, List.getElem_cons_succ, List.getElem_cons_zero, List.setIfInBounds_toArray, List.set_cons_zero, List.set_cons_succ]
              refine wpAnyH_take (i := 15) (v := .bool false) rfl (by kernel_rfl) (by kernel_rfl) (by kernel_rfl) (fun _ _ _ h => h) (.inl ⟨by rfl, fun W hW => ?_⟩) hS2 ?_
              · obtain ⟨z0, z1, z2, z3, z4, z5⟩ := hW; go_simp
              simp only [Act.put, List.getElem_toArray, List.getElem_cons_succ, List.getElem_cons_zero, List.setIfInBounds_toArray, List.set_cons_zero, List.set_cons_succ]
              refine wpAnyH_take (i := 16) (v := .pointer (some ⟨wr.heap.size, 3, none⟩)) rfl (by kernel_rfl) (by kernel_rfl) (by kernel_rfl) (fun _ _ _ h => h) (.inl ⟨by rfl, fun W hW => ?_⟩) hS2 ?_
              · obtain ⟨z0, z1, z2, z3, z4, z5⟩ := hW; go_simp
              simp only [Act.put, List.getElem_toArray, List.getElem_cons_succ, List.getElem_cons_zero, List.setIfInBounds_toArray, List.set_cons_zero, List.set_cons_succ]
              refine wpAnyH_take (i := 17) (v := .pointer (some ⟨w.heap.size, a, none⟩)) rfl (by kernel_rfl) (by kernel_rfl) (by kernel_rfl) (fun _ _ _ h => h) (.inl ⟨by rfl, fun W hW => ?_⟩) hS2 ?_
              · obtain ⟨z0, z1, z2, z3, z4, z5⟩ := hW; go_simp
              simp only [Act.put, List.getElem_toArray, List.getElem_cons_succ, List.getElem_cons_zero, List.setIfInBounds_toArray, List.set_cons_zero, List.set_cons_succ]
              refine wpAnyH_take (i := 18) (v := .bool true) rfl (by kernel_rfl) (by kernel_rfl) (by kernel_rfl) (fun _ _ _ h => h) (.inl ⟨by rfl, fun W hW => ?_⟩) hS2 ?_
              · obtain ⟨z0, z1, z2, z3, z4, z5⟩ := hW; go_simp
              simp only [Act.put, List.getElem_toArray, List.getElem_cons_succ, List.getElem_cons_zero, List.setIfInBounds_toArray, List.set_cons_zero, List.set_cons_succ]
              refine wpAnyH_take (i := 19) (v := .bool true) rfl (by kernel_rfl) (by kernel_rfl) (by kernel_rfl) (fun _ _ _ h => h) (.inl ⟨by rfl, fun W hW => ?_⟩) hS2 ?_
              · obtain ⟨z0, z1, z2, z3, z4, z5⟩ := hW; go_simp
              simp only [Act.put, List.getElem_toArray, List.getElem_cons_succ, List.getElem_cons_zero, List.setIfInBounds_toArray, List.set_cons_zero, List.set_cons_succ]
              refine wpAnyH_take (i := 20) (v := .pointer (some ⟨wr.heap.size, 3, none⟩)) rfl (by kernel_rfl) (by kernel_rfl) (by kernel_rfl) (fun _ _ _ h => h) (.inl ⟨by rfl, fun W hW => ?_⟩) hS2 ?_
              · obtain ⟨z0, z1, z2, z3, z4, z5⟩ := hW; go_simp
              simp only [Act.put, List.getElem_toArray, List.getElem_cons_succ, List.getElem_cons_zero, List.setIfInBounds_toArray, List.set_cons_zero, List.set_cons_succ]
              refine wpAnyH_take (i := 21) (v := .pointer (some ⟨w.heap.size, a, none⟩)) rfl (by kernel_rfl) (by kernel_rfl) (by kernel_rfl) (fun _ _ _ h => h) (.inl ⟨by rfl, fun W hW => ?_⟩) hS2 ?_
              · obtain ⟨z0, z1, z2, z3, z4, z5⟩ := hW; go_simp
              simp only [Act.put, List.getElem_toArray, List.getElem_cons_succ, List.getElem_cons_zero, List.setIfInBounds_toArray, List.set_cons_zero, List.set_cons_succ]
              refine wpAnyH_take (i := 22) (v := .pointer (some ⟨w.heap.size, a, none⟩)) rfl (by kernel_rfl) (by kernel_rfl) (by kernel_rfl) (fun _ _ _ h => h) (.inl ⟨by rfl, fun W hW => ?_⟩) hS2 ?_
              · obtain ⟨z0, z1, z2, z3, z4, z5⟩ := hW; go_simp
              simp only [Act.put, List.getElem_toArray, List.getElem_cons_succ, List.getElem_cons_zero, List.setIfInBounds_toArray, List.set_cons_zero, List.set_cons_succ]
              refine wpAnyH_take (i := 23) (v := .bool false) rfl (by kernel_rfl) (by kernel_rfl) (by kernel_rfl) (fun _ _ _ h => h) (.inl ⟨by rfl, fun W hW => ?_⟩) hS2 ?_
              · obtain ⟨z0, z1, z2, z3, z4, z5⟩ := hW; go_simp
              simp only [Act.put, List.getElem_toArray, List.getElem_cons_succ, List.getElem_cons_zero, List.setIfInBounds_toArray, List.set_cons_zero, List.set_cons_succ]
              refine wpAnyH_take (i := 24) (v := .bool false) rfl (by kernel_rfl) (by kernel_rfl) (by kernel_rfl) (fun _ _ _ h => h) (.inl ⟨by rfl, fun W hW => ?_⟩) hS2 ?_
              · obtain ⟨z0, z1, z2, z3, z4, z5⟩ := hW; go_simp
              simp only [Act.put, List.getElem_toArray, List.getElem_cons_succ, List.getElem_cons_zero, List.setIfInBounds_toArray, List.set_cons_zero, List.set_cons_succ]
              refine wpAnyH_take (i := 25) (v := .bool false) rfl (by kernel_rfl) (by kernel_rfl) (by kernel_rfl) (fun _ _ _ h => h) (.inl ⟨by rfl, fun W hW => ?_⟩) hS2 ?_
              · obtain ⟨z0, z1, z2, z3, z4, z5⟩ := hW; go_simp
              simp only [Act.put, List.getElem_toArray, List.getElem_cons_succ, List.getElem_cons_zero, List.setIfInBounds_toArray, List.set_cons_zero, List.set_cons_succ]
              refine wpAnyH_take (i := 26) (v := undef) rfl (by kernel_rfl) (by kernel_rfl) (by kernel_rfl) (fun _ _ _ h => h) (.inr ⟨by rfl, rfl⟩) hS2 ?_
              simp only [Act.put, List.getElem_toArray, List.getElem_cons_succ, List.getElem_cons_zero, List.setIfInBounds_toArray, List.set_cons_zero, List.set_cons_succ]
              refine wpAnyH_take (i := 27) (v := undef) rfl (by kernel_rfl) (by kernel_rfl) (by kernel_rfl) (fun _ _ _ h => h) (.inr ⟨by rfl, rfl⟩) hS2 ?_
              simp only [Act.put, List.getElem_toArray, List.getElem_cons_succ, List.getElem_cons_zero, List.setIfInBounds_toArray, List.set_cons_zero, List.set_cons_succ]
              refine wpAnyH_take (i := 28) (v := undef) rfl (by kernel_rfl) (by kernel_rfl) (by kernel_rfl) (fun _ _ _ h => h) (.inr ⟨by rfl, rfl⟩) hS2 ?_
              simp only [Act.put, List.getElem_toArray, List.getElem_cons_succ, List.getElem_cons_zero, List.setIfInBounds_toArray, List.set_cons_zero, List.set_cons_succ]
              refine wpAnyH_take (i := 29) (v := undef) rfl (by kernel_rfl) (by kernel_rfl) (by kernel_rfl) (fun _ _ _ h => h) (.inr ⟨by rfl, rfl⟩) hS2 ?_
              simp only [Act.put, List.getElem_toArray, List.getElem_cons_succ, List.getElem_cons_zero, List.setIfInBounds_toArray, List.set_cons_zero, List.set_cons_succ]
              refine wpAnyH_take (i := 30) (v := undef) rfl (by kernel_rfl) (by kernel_rfl) (by kernel_rfl) (fun _ _ _ h => h) (.inr ⟨by rfl, rfl⟩) hS2 ?_
              simp only [Act.put, List.getElem_toArray, List.getElem_cons_succ, List.getElem_cons_zero, List.setIfInBounds_toArray, List.set_cons_zero, List.set_cons_succ]
              refine wpAnyH_take (i := 31) (v := undef) rfl (by kernel_rfl) (by kernel_rfl) (by kernel_rfl) (fun _ _ _ h => h) (.inr ⟨by rfl, rfl⟩) hS2 ?_
              simp only [Act.put, List.getElem_toArray, List.getElem_cons_succ, List.getElem_cons_zero, List.setIfInBounds_toArray, List.set_cons_zero, List.set_cons_succ]
              refine wpAnyH_take (i := 32) (v := undef) rfl (by kernel_rfl) (by kernel_rfl) (by kernel_rfl) (fun _ _ _ h => h) (.inr ⟨by rfl, rfl⟩) hS2 ?_
              simp only [Act.put, List.getElem_toArray, List.getElem_cons_succ, List.getElem_cons_zero, List.setIfInBounds_toArray, List.set_cons_zero, List.set_cons_succ]
              refine wpAnyH_take (i := 33) (v := .bool false) rfl (by kernel_rfl) (by kernel_rfl) (by kernel_rfl) (fun _ _ _ h => h) (.inl ⟨by rfl, fun W hW => ?_⟩) hS2 ?_
              · obtain ⟨z0, z1, z2, z3, z4, z5⟩ := hW; go_simp
              simp only [Act.put, List.getElem_toArray, List.getElem_cons_succ, List.getElem_cons_zero, List.setIfInBounds_toArray, List.set_cons_zero, List.set_cons_succ]
              refine wpAnyH_take (i := 34) (v := .bool false) rfl (by kernel_rfl) (by kernel_rfl) (by kernel_rfl) (fun _ _ _ h => h) (.inl ⟨by rfl, fun W hW => ?_⟩) hS2 ?_
              · obtain ⟨z0, z1, z2, z3, z4, z5⟩ := hW; go_simp
              simp only [Act.put, List.getElem_toArray, List.getElem_cons_succ, List.getElem_cons_zero, List.setIfInBounds_toArray, List.set_cons_zero, List.set_cons_succ]
              refine wpAnyH_done (by kernel_rfl) ?_ _
              have hyes : c.okAt j = true := by rw [HE2.out]; rfl
              have hok2 := Lib.hid (show ∀ k, k < j + 1 → c.okAt k = true from fun k hk => by rcases Nat.lt_succ_iff_lt_or_eq.mp hk with h | h; · exact hok.out k h
                                                                                              · rw [h]; exact hyes)
              clear hok hyes HE2
              go_wp2_with fail
              refine ⟨⟨j + 1, hlt, by simp, hok2, ((hbr.alloc hbr.size _).drew).trans (hbb2.mono (Nat.le_trans hbr.size (by simp)))⟩, by simp only [intOf]; omega⟩
            | true =>
              have hbox := (Tide.At.made wr 61 #[.pointer (some ⟨w.heap.size, si, none⟩), .int .i64 lo, .int .i64 hi, .pointer (some ⟨w.heap.size, a, none⟩)]).drew
              have hset : ((wr.alloc (.cells #[.pointer (some ⟨w.heap.size, si, none⟩), .int .i64 lo, .int .i64 hi, .pointer (some ⟨w.heap.size, a, none⟩)] 61)).drew).cell? ⟨w.heap.size, si, none⟩ = some (.int .u64 (s : Int)) := (World.cell?_alloc_lt wr _ _ hzz).trans q4
              have hax : ((wr.alloc (.cells #[.pointer (some ⟨w.heap.size, si, none⟩), .int .i64 lo, .int .i64 hi, .pointer (some ⟨w.heap.size, a, none⟩)] 61)).drew).cell? ⟨w.heap.size, a, none⟩ = some (.bool true) := (World.cell?_alloc_lt wr _ _ hzz).trans q6
              have hall := Lib.hid (fun W => all_keep lo hi (.pointer (some ⟨w.heap.size, si, none⟩)) (.pointer (some ⟨w.heap.size, a, none⟩)) W l0 l1 ⟨wr.heap.size, 0, none⟩ ⟨wr.heap.size, 1, none⟩ ⟨wr.heap.size, 2, none⟩ ⟨wr.heap.size, 3, none⟩ ⟨w.heap.size, si, none⟩ ⟨w.heap.size, a, none⟩)
              have HS0 := Lib.hid (show RegS wr.heap.size w.heap.size si s lo hi (.pointer (some ⟨w.heap.size, a, none⟩)) (a) (.bool true) _ from ⟨hbox.here (i := 0) rfl, hbox.here (i := 1) rfl, hbox.here (i := 2) rfl, hbox.here (i := 3) rfl, hset, hax⟩)
              clear hbox hset hax
              go_wp2_with fail
              have hS : (RegS wr.heap.size w.heap.size si s lo hi (.pointer (some ⟨w.heap.size, a, none⟩)) (a) (.bool true)) ((wr.alloc (.cells #[.pointer (some ⟨w.heap.size, si, none⟩), .int .i64 lo, .int .i64 hi, .pointer (some ⟨w.heap.size, a, none⟩)] 61)).drew) := HS0.out
              refine wp_region_held_drew (S := (RegS wr.heap.size w.heap.size si s lo hi (.pointer (some ⟨w.heap.size, a, none⟩)) (a) (.bool true))) (by kernel_rfl) hS (fun _ => ?_)
              change wpAnyH _ _ _ _ _ 35 #[false, false, false, false, false, false, false, false, false, false, false, false, false, false, false, false, false, false, false, false, false, false, false, false, false, false, false, false, false, false, false, false, false, false, false] _ (World.drew _)
              refine wpAnyH_take (i := 0) (v := .pointer (some ⟨wr.heap.size, 0, none⟩)) rfl (by kernel_rfl) (by kernel_rfl) (by kernel_rfl) (fun _ _ _ h => h) (.inl ⟨by rfl, fun W hW => ?_⟩) hS ?_
              · obtain ⟨z0, z1, z2, z3, z4, z5⟩ := hW; go_simp
              simp only [Act.put, List.getElem_toArray, List.getElem_cons_succ, List.getElem_cons_zero, List.setIfInBounds_toArray, List.set_cons_zero, List.set_cons_succ]
              refine wpAnyH_take (i := 1) (v := .pointer (some ⟨w.heap.size, si, none⟩)) rfl (by kernel_rfl) (by kernel_rfl) (by kernel_rfl) (fun _ _ _ h => h) (.inl ⟨by rfl, fun W hW => ?_⟩) hS ?_
              · obtain ⟨z0, z1, z2, z3, z4, z5⟩ := hW; go_simp
              simp only [Act.put, List.getElem_toArray, List.getElem_cons_succ, List.getElem_cons_zero, List.setIfInBounds_toArray, List.set_cons_zero, List.set_cons_succ]
              refine wpAnyH_take (i := 2) (v := .pointer (some ⟨w.heap.size, si, none⟩)) rfl (by kernel_rfl) (by kernel_rfl) (by kernel_rfl) (fun _ _ _ h => h) (.inl ⟨by rfl, fun W hW => ?_⟩) hS ?_
              · obtain ⟨z0, z1, z2, z3, z4, z5⟩ := hW; go_simp
              simp only [Act.put, List.getElem_toArray, List.getElem_cons_succ, List.getElem_cons_zero, List.setIfInBounds_toArray, List.set_cons_zero, List.set_cons_succ]
              refine wpAnyH_take (i := 3) (v := .int .u64 (s : Int)) rfl (by kernel_rfl) (by kernel_rfl) (by kernel_rfl) (fun _ _ _ h => h) (.inl ⟨by rfl, fun W hW => ?_⟩) hS ?_
              · obtain ⟨z0, z1, z2, z3, z4, z5⟩ := hW; go_simp
              simp only [Act.put, List.getElem_toArray, List.getElem_cons_succ, List.getElem_cons_zero, List.setIfInBounds_toArray, List.set_cons_zero, List.set_cons_succ]
              refine wpAnyH_take (i := 4) (v := .bool false) rfl (by kernel_rfl) (by kernel_rfl) (by kernel_rfl) (fun _ _ _ h => h) (.inl ⟨by rfl, fun W hW => ?_⟩) hS ?_
              · obtain ⟨z0, z1, z2, z3, z4, z5⟩ := hW; go_simp
              simp only [Act.put, List.getElem_toArray, List.getElem_cons_succ, List.getElem_cons_zero, List.setIfInBounds_toArray, List.set_cons_zero, List.set_cons_succ]
              refine wpAnyH_take (i := 5) (v := .bool false) rfl (by kernel_rfl) (by kernel_rfl) (by kernel_rfl) (fun _ _ _ h => h) (.inl ⟨by rfl, fun W hW => ?_⟩) hS ?_
              · obtain ⟨z0, z1, z2, z3, z4, z5⟩ := hW; go_simp
              simp only [Act.put, List.getElem_toArray, List.getElem_cons_succ, List.getElem_cons_zero, List.setIfInBounds_toArray, List.set_cons_zero, List.set_cons_succ]
              refine wpAnyH_take (i := 6) (v := .pointer (some ⟨wr.heap.size, 0, none⟩)) rfl (by kernel_rfl) (by kernel_rfl) (by kernel_rfl) (fun _ _ _ h => h) (.inl ⟨by rfl, fun W hW => ?_⟩) hS ?_
              · obtain ⟨z0, z1, z2, z3, z4, z5⟩ := hW; go_simp
              simp only [Act.put, List.getElem_toArray, List.getElem_cons_succ, List.getElem_cons_zero, List.setIfInBounds_toArray, List.set_cons_zero, List.set_cons_succ]
              refine wpAnyH_take (i := 7) (v := .pointer (some ⟨w.heap.size, si, none⟩)) rfl (by kernel_rfl) (by kernel_rfl) (by kernel_rfl) (fun _ _ _ h => h) (.inl ⟨by rfl, fun W hW => ?_⟩) hS ?_
              · obtain ⟨z0, z1, z2, z3, z4, z5⟩ := hW; go_simp
              simp only [Act.put, List.getElem_toArray, List.getElem_cons_succ, List.getElem_cons_zero, List.setIfInBounds_toArray, List.set_cons_zero, List.set_cons_succ]
              refine wpAnyH_take (i := 8) (v := .pointer (some ⟨w.heap.size, si, none⟩)) rfl (by kernel_rfl) (by kernel_rfl) (by kernel_rfl) (fun _ _ _ h => h) (.inl ⟨by rfl, fun W hW => ?_⟩) hS ?_
              · obtain ⟨z0, z1, z2, z3, z4, z5⟩ := hW; go_simp
              simp only [Act.put, List.getElem_toArray, List.getElem_cons_succ, List.getElem_cons_zero, List.setIfInBounds_toArray, List.set_cons_zero, List.set_cons_succ]
              refine wpAnyH_take (i := 9) (v := .int .u64 (s : Int)) rfl (by kernel_rfl) (by kernel_rfl) (by kernel_rfl) (fun _ _ _ h => h) (.inl ⟨by rfl, fun W hW => ?_⟩) hS ?_
              · obtain ⟨z0, z1, z2, z3, z4, z5⟩ := hW; go_simp
              simp only [Act.put, List.getElem_toArray, List.getElem_cons_succ, List.getElem_cons_zero, List.setIfInBounds_toArray, List.set_cons_zero, List.set_cons_succ]
              refine wpAnyH_take (i := 10) (v := .agg #[.pointer (some ⟨w.heap.size, si, none⟩), .int .i64 lo, .int .i64 hi, .pointer (some ⟨w.heap.size, a, none⟩)]) rfl (by kernel_rfl) (by kernel_rfl) (by kernel_rfl) (fun _ _ _ h => h) (.inl ⟨by rfl, fun W hW => ?_⟩) hS ?_
              · obtain ⟨z0, z1, z2, z3, z4, z5⟩ := hW; go_simp
              simp only [Act.put, List.getElem_toArray, List.getElem_cons_succ, List.getElem_cons_zero, List.setIfInBounds_toArray, List.set_cons_zero, List.set_cons_succ]
              refine wpAnyH_ready (rs := [11]) (by kernel_rfl) (by simp) (AllReadyH.cons rfl (fun K hK => ?_) AllReadyH.nil)
              go_simp
              refine (hall.out _ _ _ _ _ _ _ hS.1 hS.2.1 hS.2.2.1 hS.2.2.2.1 hS.2.2.2.2.1 hS.2.2.2.2.2).mono ?_
              rintro e w2 ⟨rfl, y0, y1, y2, y3, y4, y5, hbb2⟩
              have hS2 : (RegS wr.heap.size w.heap.size si s lo hi (.pointer (some ⟨w.heap.size, a, none⟩)) (a) (.bool true)) w2 := ⟨y0, y1, y2, y3, y4, y5⟩
              clear y0 y1 y2 y3 y4 y5
              go_wp2_with fail
              refine hK.out _ _ hS2 (fun _ => ?_)
              clear hK K
              refine wpAnyH_take (i := 12) (v := .int .u64 (bits .andNot .u64 (s : Int) (Tide.allN lo hi : Nat))) rfl (by kernel_rfl) (by kernel_rfl) (by kernel_rfl) (fun _ _ _ h => h) (.inl ⟨by rfl, fun W hW => ?_⟩) hS2 ?_
              · obtain ⟨z0, z1, z2, z3, z4, z5⟩ := hW; go_simp
              simp only [Act.put, List.getElem_toArray, List.getElem_cons_succ, List.getElem_cons_zero, List.setIfInBounds_toArray, List.set_cons_zero, List.set_cons_succ]
              refine wpAnyH_take (i := 13) (v := .bool false) rfl (by kernel_rfl) (by kernel_rfl) (by kernel_rfl) (fun _ _ _ h => h) (.inl ⟨by rfl, fun W hW => ?_⟩) hS2 ?_
              · obtain ⟨z0, z1, z2, z3, z4, z5⟩ := hW; go_simp
              simp only [Act.put, List.getElem_toArray, List.getElem_cons_succ, List.getElem_cons_zero, List.setIfInBounds_toArray, List.set_cons_zero, List.set_cons_succ]
              refine wpAnyH_take (i := 14) (v := .bool false) rfl (by kernel_rfl) (by kernel_rfl) (by kernel_rfl) (fun _ _ _ h => h) (.inl ⟨by rfl, fun W hW => ?_⟩) hS2 ?_
              · obtain ⟨z0, z1, z2, z3, z4, z5⟩ := hW; go_simp
              simp only [Act.put, List.getElem_toArray, List.getElem_cons_succ, List.getElem_cons_zero, List.setIfInBounds_toArray, List.set_cons_zero, List.set_cons_succ]
              refine wpAnyH_take (i := 15) (v := .bool false) rfl (by kernel_rfl) (by kernel_rfl) (by kernel_rfl) (fun _ _ _ h => h) (.inl ⟨by rfl, fun W hW => ?_⟩) hS2 ?_
              · obtain ⟨z0, z1, z2, z3, z4, z5⟩ := hW; go_simp
              simp only [Act.put, List.getElem_toArray, List.getElem_cons_succ, List.getElem_cons_zero, List.setIfInBounds_toArray, List.set_cons_zero, List.set_cons_succ]
              refine wpAnyH_take (i := 16) (v := .pointer (some ⟨wr.heap.size, 3, none⟩)) rfl (by kernel_rfl) (by kernel_rfl) (by kernel_rfl) (fun _ _ _ h => h) (.inl ⟨by rfl, fun W hW => ?_⟩) hS2 ?_
              · obtain ⟨z0, z1, z2, z3, z4, z5⟩ := hW; go_simp
              simp only [Act.put, List.getElem_toArray, List.getElem_cons_succ, List.getElem_cons_zero, List.setIfInBounds_toArray, List.set_cons_zero, List.set_cons_succ]
              refine wpAnyH_take (i := 17) (v := .pointer (some ⟨w.heap.size, a, none⟩)) rfl (by kernel_rfl) (by kernel_rfl) (by kernel_rfl) (fun _ _ _ h => h) (.inl ⟨by rfl, fun W hW => ?_⟩) hS2 ?_
              · obtain ⟨z0, z1, z2, z3, z4, z5⟩ := hW; go_simp
              simp only [Act.put, List.getElem_toArray, List.getElem_cons_succ, List.getElem_cons_zero, List.setIfInBounds_toArray, List.set_cons_zero, List.set_cons_succ]
              refine wpAnyH_take (i := 18) (v := .bool true) rfl (by kernel_rfl) (by kernel_rfl) (by kernel_rfl) (fun _ _ _ h => h) (.inl ⟨by rfl, fun W hW => ?_⟩) hS2 ?_
              · obtain ⟨z0, z1, z2, z3, z4, z5⟩ := hW; go_simp
              simp only [Act.put, List.getElem_toArray, List.getElem_cons_succ, List.getElem_cons_zero, List.setIfInBounds_toArray, List.set_cons_zero, List.set_cons_succ]
              refine wpAnyH_take (i := 19) (v := .bool true) rfl (by kernel_rfl) (by kernel_rfl) (by kernel_rfl) (fun _ _ _ h => h) (.inl ⟨by rfl, fun W hW => ?_⟩) hS2 ?_
              · obtain ⟨z0, z1, z2, z3, z4, z5⟩ := hW; go_simp
              simp only [Act.put, List.getElem_toArray, List.getElem_cons_succ, List.getElem_cons_zero, List.setIfInBounds_toArray, List.set_cons_zero, List.set_cons_succ]
              refine wpAnyH_take (i := 20) (v := .pointer (some ⟨wr.heap.size, 3, none⟩)) rfl (by kernel_rfl) (by kernel_rfl) (by kernel_rfl) (fun _ _ _ h => h) (.inl ⟨by rfl, fun W hW => ?_⟩) hS2 ?_
              · obtain ⟨z0, z1, z2, z3, z4, z5⟩ := hW; go_simp
              simp only [Act.put, List.getElem_toArray, List.getElem_cons_succ, List.getElem_cons_zero, List.setIfInBounds_toArray, List.set_cons_zero, List.set_cons_succ]
              refine wpAnyH_take (i := 21) (v := .pointer (some ⟨w.heap.size, a, none⟩)) rfl (by kernel_rfl) (by kernel_rfl) (by kernel_rfl) (fun _ _ _ h => h) (.inl ⟨by rfl, fun W hW => ?_⟩) hS2 ?_
              · obtain ⟨z0, z1, z2, z3, z4, z5⟩ := hW; go_simp
              simp only [Act.put, List.getElem_toArray, List.getElem_cons_succ, List.getElem_cons_zero, List.setIfInBounds_toArray, List.set_cons_zero, List.set_cons_succ]
              refine wpAnyH_take (i := 22) (v := .pointer (some ⟨w.heap.size, a, none⟩)) rfl (by kernel_rfl) (by kernel_rfl) (by kernel_rfl) (fun _ _ _ h => h) (.inl ⟨by rfl, fun W hW => ?_⟩) hS2 ?_
              · obtain ⟨z0, z1, z2, z3, z4, z5⟩ := hW; go_simp
              simp only [Act.put, List.getElem_toArray, List.getElem_cons_succ, List.getElem_cons_zero, List.setIfInBounds_toArray, List.set_cons_zero, List.set_cons_succ]
              refine wpAnyH_take (i := 23) (v := .bool true) rfl (by kernel_rfl) (by kernel_rfl) (by kernel_rfl) (fun _ _ _ h => h) (.inl ⟨by rfl, fun W hW => ?_⟩) hS2 ?_
              · obtain ⟨z0, z1, z2, z3, z4, z5⟩ := hW; go_simp
              simp only [Act.put, List.getElem_toArray, List.getElem_cons_succ, List.getElem_cons_zero, List.setIfInBounds_toArray, List.set_cons_zero, List.set_cons_succ]
              refine wpAnyH_take (i := 24) (v := .bool true) rfl (by kernel_rfl) (by kernel_rfl) (by kernel_rfl) (fun _ _ _ h => h) (.inl ⟨by rfl, fun W hW => ?_⟩) hS2 ?_
              · obtain ⟨z0, z1, z2, z3, z4, z5⟩ := hW; go_simp
              simp only [Act.put, List.getElem_toArray, List.getElem_cons_succ, List.getElem_cons_zero, List.setIfInBounds_toArray, List.set_cons_zero, List.set_cons_succ]
              refine wpAnyH_take (i := 25) (v := .bool true) rfl (by kernel_rfl) (by kernel_rfl) (by kernel_rfl) (fun _ _ _ h => h) (.inl ⟨by rfl, fun W hW => ?_⟩) hS2 ?_
              · obtain ⟨z0, z1, z2, z3, z4, z5⟩ := hW; go_simp
              simp only [Act.put, List.getElem_toArray, List.getElem_cons_succ, List.getElem_cons_zero, List.setIfInBounds_toArray, List.set_cons_zero, List.set_cons_succ]
              refine wpAnyH_take (i := 26) (v := .pointer (some ⟨wr.heap.size, 0, none⟩)) rfl (by kernel_rfl) (by kernel_rfl) (by kernel_rfl) (fun _ _ _ h => h) (.inl ⟨by rfl, fun W hW => ?_⟩) hS2 ?_
              · obtain ⟨z0, z1, z2, z3, z4, z5⟩ := hW; go_simp
              simp only [Act.put, List.getElem_toArray, List.getElem_cons_succ, List.getElem_cons_zero, List.setIfInBounds_toArray, List.set_cons_zero, List.set_cons_succ]
              refine wpAnyH_take (i := 27) (v := .pointer (some ⟨w.heap.size, si, none⟩)) rfl (by kernel_rfl) (by kernel_rfl) (by kernel_rfl) (fun _ _ _ h => h) (.inl ⟨by rfl, fun W hW => ?_⟩) hS2 ?_
              · obtain ⟨z0, z1, z2, z3, z4, z5⟩ := hW; go_simp
              simp only [Act.put, List.getElem_toArray, List.getElem_cons_succ, List.getElem_cons_zero, List.setIfInBounds_toArray, List.set_cons_zero, List.set_cons_succ]
              refine wpAnyH_take (i := 28) (v := .pointer (some ⟨w.heap.size, si, none⟩)) rfl (by kernel_rfl) (by kernel_rfl) (by kernel_rfl) (fun _ _ _ h => h) (.inl ⟨by rfl, fun W hW => ?_⟩) hS2 ?_
              · obtain ⟨z0, z1, z2, z3, z4, z5⟩ := hW; go_simp
              simp only [Act.put, List.getElem_toArray, List.getElem_cons_succ, List.getElem_cons_zero, List.setIfInBounds_toArray, List.set_cons_zero, List.set_cons_succ]
              refine wpAnyH_take (i := 29) (v := .int .u64 (s : Int)) rfl (by kernel_rfl) (by kernel_rfl) (by kernel_rfl) (fun _ _ _ h => h) (.inl ⟨by rfl, fun W hW => ?_⟩) hS2 ?_
              · obtain ⟨z0, z1, z2, z3, z4, z5⟩ := hW; go_simp
              simp only [Act.put, List.getElem_toArray, List.getElem_cons_succ, List.getElem_cons_zero, List.setIfInBounds_toArray, List.set_cons_zero, List.set_cons_succ]
              refine wpAnyH_take (i := 30) (v := .agg #[.pointer (some ⟨w.heap.size, si, none⟩), .int .i64 lo, .int .i64 hi, .pointer (some ⟨w.heap.size, a, none⟩)]) rfl (by kernel_rfl) (by kernel_rfl) (by kernel_rfl) (fun _ _ _ h => h) (.inl ⟨by rfl, fun W hW => ?_⟩) hS2 ?_
              · obtain ⟨z0, z1, z2, z3, z4, z5⟩ := hW; go_simp
              simp only [Act.put, List.getElem_toArray, List.getElem_cons_succ, List.getElem_cons_zero, List.setIfInBounds_toArray, List.set_cons_zero, List.set_cons_succ]
              refine wpAnyH_ready (rs := [31]) (by kernel_rfl) (by simp) (AllReadyH.cons rfl (fun K hK => ?_) AllReadyH.nil)
              go_simp
              refine (hall.out _ _ _ _ _ _ _ hS2.1 hS2.2.1 hS2.2.2.1 hS2.2.2.2.1 hS2.2.2.2.2.1 hS2.2.2.2.2.2).mono ?_
              rintro e w3 ⟨rfl, y0, y1, y2, y3, y4, y5, hbb3⟩
              have hS3 : (RegS wr.heap.size w.heap.size si s lo hi (.pointer (some ⟨w.heap.size, a, none⟩)) (a) (.bool true)) w3 := ⟨y0, y1, y2, y3, y4, y5⟩
              clear y0 y1 y2 y3 y4 y5
              go_wp2_with fail
              refine hK.out _ _ hS3 (fun _ => ?_)
              clear hK K
              refine wpAnyH_take (i := 32) (v := .bool ((s : Int) != ((Tide.allN lo hi : Nat) : Int))) rfl (by kernel_rfl) (by kernel_rfl) (by kernel_rfl) (fun _ _ _ h => h) (.inl ⟨by rfl, fun W hW => ?_⟩) hS3 ?_
              · obtain ⟨z0, z1, z2, z3, z4, z5⟩ := hW; go_simp
              simp only [Act.put, List.getElem_toArray, List.getElem_cons_succ, List.getElem_cons_zero, List.setIfInBounds_toArray, List.set_cons_zero, List.set_cons_succ]
              refine wpAnyH_take (i := 33) (v := .bool ((s : Int) != ((Tide.allN lo hi : Nat) : Int))) rfl (by kernel_rfl) (by kernel_rfl) (by kernel_rfl) (fun _ _ _ h => h) (.inl ⟨by rfl, fun W hW => ?_⟩) hS3 ?_
              · obtain ⟨z0, z1, z2, z3, z4, z5⟩ := hW; go_simp
              simp only [Act.put, List.getElem_toArray, List.getElem_cons_succ, List.getElem_cons_zero, List.setIfInBounds_toArray, List.set_cons_zero, List.set_cons_succ]
              refine wpAnyH_take (i := 34) (v := .bool ((s : Int) != ((Tide.allN lo hi : Nat) : Int))) rfl (by kernel_rfl) (by kernel_rfl) (by kernel_rfl) (fun _ _ _ h => h) (.inl ⟨by rfl, fun W hW => ?_⟩) hS3 ?_
              · obtain ⟨z0, z1, z2, z3, z4, z5⟩ := hW; go_simp
              simp only [Act.put, List.getElem_toArray, List.getElem_cons_succ, List.getElem_cons_zero, List.setIfInBounds_toArray, List.set_cons_zero, List.set_cons_succ]
              refine wpAnyH_done (by kernel_rfl) ?_ _
              cases hq : ((s : Int) != ((Tide.allN lo hi : Nat) : Int)) with
              | true =>
                have hno : c.okAt j = false := by rw [HE2.out, show ((s : Int) == ((Tide.allN lo hi : Nat) : Int)) = false by simpa using hq]; rfl
                have hfin := Lib.hid (Cr.err_no (Cr.not_ok j hlt hno))
                clear hno HE2
                go_wp2_with fail
                go_ret
                refine ⟨ret_int hfin.out.symm, ?_⟩
                exact ((below_drewN ((hbw.trans (hbr.mono hbw.size)).alloc (Nat.le_trans hbw.size hbr.size) _) 1).trans (hbb2.mono (Nat.le_trans (Nat.le_trans hbw.size hbr.size) (by simp)))).trans (hbb3.mono (Nat.le_trans (Nat.le_trans (Nat.le_trans hbw.size hbr.size) (by simp)) hbb2.size))
              | false =>
                have hyes : c.okAt j = true := by rw [HE2.out, show ((s : Int) == ((Tide.allN lo hi : Nat) : Int)) = true by simpa using hq]; rfl
                have hok2 := Lib.hid (show ∀ k, k < j + 1 → c.okAt k = true from fun k hk => by rcases Nat.lt_succ_iff_lt_or_eq.mp hk with h | h; · exact hok.out k h
                                                                                                · rw [h]; exact hyes)
                clear hok hyes HE2
                go_wp2_with fail
                refine ⟨⟨j + 1, hlt, by simp, hok2, (((hbr.alloc hbr.size _).drew).trans (hbb2.mono (Nat.le_trans hbr.size (by simp)))).trans (hbb3.mono (Nat.le_trans (Nat.le_trans hbr.size (by simp)) hbb2.size))⟩, by simp only [intOf]; omega⟩
        · have hn' : (bits .andNot .u64 (s : Int) (Tide.allN lo hi : Nat) != 0) = true := by simp [hn]
          have hno : c.okAt j = false := by rw [HE.out]; unfold Tide.okField; rw [show (bits .andNot .u64 (s : Int) (Tide.allN lo hi : Nat) == 0) = false by simp [hn]]; simp
          have hfin := Lib.hid (Cr.err_no (Cr.not_ok j hlt hno))
          clear hs hno hn
          have hbox := (Tide.At.made wr 61 #[.pointer (some ⟨w.heap.size, si, none⟩), .int .i64 lo, .int .i64 hi, (.pointer (ap.map fun a => ⟨w.heap.size, a, none⟩))]).drew
          have hset : ((wr.alloc (.cells #[.pointer (some ⟨w.heap.size, si, none⟩), .int .i64 lo, .int .i64 hi, (.pointer (ap.map fun a => ⟨w.heap.size, a, none⟩))] 61)).drew).cell? ⟨w.heap.size, si, none⟩ = some (.int .u64 (s : Int)) := (World.cell?_alloc_lt wr _ _ hzz).trans q4
          have hax : ((wr.alloc (.cells #[.pointer (some ⟨w.heap.size, si, none⟩), .int .i64 lo, .int .i64 hi, (.pointer (ap.map fun a => ⟨w.heap.size, a, none⟩))] 61)).drew).cell? ⟨w.heap.size, si, none⟩ = some (.int .u64 (s : Int)) := (World.cell?_alloc_lt wr _ _ hzz).trans q4
          have hall := Lib.hid (fun W => all_keep lo hi (.pointer (some ⟨w.heap.size, si, none⟩)) ((.pointer (ap.map fun a => ⟨w.heap.size, a, none⟩))) W l0 l1 ⟨wr.heap.size, 0, none⟩ ⟨wr.heap.size, 1, none⟩ ⟨wr.heap.size, 2, none⟩ ⟨wr.heap.size, 3, none⟩ ⟨w.heap.size, si, none⟩ ⟨w.heap.size, si, none⟩)
          have HS0 := Lib.hid (show RegS wr.heap.size w.heap.size si s lo hi ((.pointer (ap.map fun a => ⟨w.heap.size, a, none⟩))) (si) (.int .u64 (s : Int)) _ from ⟨hbox.here (i := 0) rfl, hbox.here (i := 1) rfl, hbox.here (i := 2) rfl, hbox.here (i := 3) rfl, hset, hax⟩)
          clear hbox hset hax
          go_wp2_with fail
          have hS : (RegS wr.heap.size w.heap.size si s lo hi ((.pointer (ap.map fun a => ⟨w.heap.size, a, none⟩))) (si) (.int .u64 (s : Int))) ((wr.alloc (.cells #[.pointer (some ⟨w.heap.size, si, none⟩), .int .i64 lo, .int .i64 hi, (.pointer (ap.map fun a => ⟨w.heap.size, a, none⟩))] 61)).drew) := HS0.out
          refine wp_region_held_drew (S := (RegS wr.heap.size w.heap.size si s lo hi ((.pointer (ap.map fun a => ⟨w.heap.size, a, none⟩))) (si) (.int .u64 (s : Int)))) (by kernel_rfl) hS (fun _ => ?_)
          change wpAnyH _ _ _ _ _ 35 #[false, false, false, false, false, false, false, false, false, false, false, false, false, false, false, false, false, false, false, false, false, false, false, false, false, false, false, false, false, false, false, false, false, false, false] _ (World.drew _)
          refine wpAnyH_take (i := 0) (v := .pointer (some ⟨wr.heap.size, 0, none⟩)) rfl (by kernel_rfl) (by kernel_rfl) (by kernel_rfl) (fun _ _ _ h => h) (.inl ⟨by rfl, fun W hW => ?_⟩) hS ?_
          · obtain ⟨z0, z1, z2, z3, z4, z5⟩ := hW; go_simp
          simp only [Act.put, List.getElem_toArray, List.getElem_cons_succ, List.getElem_cons_zero, List.setIfInBounds_toArray, List.set_cons_zero, List.set_cons_succ]
          refine wpAnyH_take (i := 1) (v := .pointer (some ⟨w.heap.size, si, none⟩)) rfl (by kernel_rfl) (by kernel_rfl) (by kernel_rfl) (fun _ _ _ h => h) (.inl ⟨by rfl, fun W hW => ?_⟩) hS ?_
          · obtain ⟨z0, z1, z2, z3, z4, z5⟩ := hW; go_simp
          simp only [Act.put, List.getElem_toArray, List.getElem_cons_succ, List.getElem_cons_zero, List.setIfInBounds_toArray, List.set_cons_zero, List.set_cons_succ]
          refine wpAnyH_take (i := 2) (v := .pointer (some ⟨w.heap.size, si, none⟩)) rfl (by kernel_rfl) (by kernel_rfl) (by kernel_rfl) (fun _ _ _ h => h) (.inl ⟨by rfl, fun W hW => ?_⟩) hS ?_
          · obtain ⟨z0, z1, z2, z3, z4, z5⟩ := hW; go_simp
          simp only [Act.put, List.getElem_toArray, List.getElem_cons_succ, List.getElem_cons_zero, List.setIfInBounds_toArray, List.set_cons_zero, List.set_cons_succ]
          refine wpAnyH_take (i := 3) (v := .int .u64 (s : Int)) rfl (by kernel_rfl) (by kernel_rfl) (by kernel_rfl) (fun _ _ _ h => h) (.inl ⟨by rfl, fun W hW => ?_⟩) hS ?_
          · obtain ⟨z0, z1, z2, z3, z4, z5⟩ := hW; go_simp
          simp only [Act.put, List.getElem_toArray, List.getElem_cons_succ, List.getElem_cons_zero, List.setIfInBounds_toArray, List.set_cons_zero, List.set_cons_succ]
          refine wpAnyH_take (i := 4) (v := .bool false) rfl (by kernel_rfl) (by kernel_rfl) (by kernel_rfl) (fun _ _ _ h => h) (.inl ⟨by rfl, fun W hW => ?_⟩) hS ?_
          · obtain ⟨z0, z1, z2, z3, z4, z5⟩ := hW; go_simp
          simp only [Act.put, List.getElem_toArray, List.getElem_cons_succ, List.getElem_cons_zero, List.setIfInBounds_toArray, List.set_cons_zero, List.set_cons_succ]
          refine wpAnyH_take (i := 5) (v := .bool false) rfl (by kernel_rfl) (by kernel_rfl) (by kernel_rfl) (fun _ _ _ h => h) (.inl ⟨by rfl, fun W hW => ?_⟩) hS ?_
          · obtain ⟨z0, z1, z2, z3, z4, z5⟩ := hW; go_simp
          simp only [Act.put, List.getElem_toArray, List.getElem_cons_succ, List.getElem_cons_zero, List.setIfInBounds_toArray, List.set_cons_zero, List.set_cons_succ]
          refine wpAnyH_take (i := 6) (v := .pointer (some ⟨wr.heap.size, 0, none⟩)) rfl (by kernel_rfl) (by kernel_rfl) (by kernel_rfl) (fun _ _ _ h => h) (.inl ⟨by rfl, fun W hW => ?_⟩) hS ?_
          · obtain ⟨z0, z1, z2, z3, z4, z5⟩ := hW; go_simp
          simp only [Act.put, List.getElem_toArray, List.getElem_cons_succ, List.getElem_cons_zero, List.setIfInBounds_toArray, List.set_cons_zero, List.set_cons_succ]
          refine wpAnyH_take (i := 7) (v := .pointer (some ⟨w.heap.size, si, none⟩)) rfl (by kernel_rfl) (by kernel_rfl) (by kernel_rfl) (fun _ _ _ h => h) (.inl ⟨by rfl, fun W hW => ?_⟩) hS ?_
          · obtain ⟨z0, z1, z2, z3, z4, z5⟩ := hW; go_simp
          simp only [Act.put, List.getElem_toArray, List.getElem_cons_succ, List.getElem_cons_zero, List.setIfInBounds_toArray, List.set_cons_zero, List.set_cons_succ]
          refine wpAnyH_take (i := 8) (v := .pointer (some ⟨w.heap.size, si, none⟩)) rfl (by kernel_rfl) (by kernel_rfl) (by kernel_rfl) (fun _ _ _ h => h) (.inl ⟨by rfl, fun W hW => ?_⟩) hS ?_
          · obtain ⟨z0, z1, z2, z3, z4, z5⟩ := hW; go_simp
          simp only [Act.put, List.getElem_toArray, List.getElem_cons_succ, List.getElem_cons_zero, List.setIfInBounds_toArray, List.set_cons_zero, List.set_cons_succ]
          refine wpAnyH_take (i := 9) (v := .int .u64 (s : Int)) rfl (by kernel_rfl) (by kernel_rfl) (by kernel_rfl) (fun _ _ _ h => h) (.inl ⟨by rfl, fun W hW => ?_⟩) hS ?_
          · obtain ⟨z0, z1, z2, z3, z4, z5⟩ := hW; go_simp
          simp only [Act.put, List.getElem_toArray, List.getElem_cons_succ, List.getElem_cons_zero, List.setIfInBounds_toArray, List.set_cons_zero, List.set_cons_succ]
          refine wpAnyH_take (i := 10) (v := .agg #[.pointer (some ⟨w.heap.size, si, none⟩), .int .i64 lo, .int .i64 hi, (.pointer (ap.map fun a => ⟨w.heap.size, a, none⟩))]) rfl (by kernel_rfl) (by kernel_rfl) (by kernel_rfl) (fun _ _ _ h => h) (.inl ⟨by rfl, fun W hW => ?_⟩) hS ?_
          · obtain ⟨z0, z1, z2, z3, z4, z5⟩ := hW; go_simp
          simp only [Act.put, List.getElem_toArray, List.getElem_cons_succ, List.getElem_cons_zero, List.setIfInBounds_toArray, List.set_cons_zero, List.set_cons_succ]
          refine wpAnyH_ready (rs := [11]) (by kernel_rfl) (by simp) (AllReadyH.cons rfl (fun K hK => ?_) AllReadyH.nil)
          go_simp
          refine (hall.out _ _ _ _ _ _ _ hS.1 hS.2.1 hS.2.2.1 hS.2.2.2.1 hS.2.2.2.2.1 hS.2.2.2.2.2).mono ?_
          rintro e w2 ⟨rfl, y0, y1, y2, y3, y4, y5, hbb2⟩
          have hS2 : (RegS wr.heap.size w.heap.size si s lo hi ((.pointer (ap.map fun a => ⟨w.heap.size, a, none⟩))) (si) (.int .u64 (s : Int))) w2 := ⟨y0, y1, y2, y3, y4, y5⟩
          clear y0 y1 y2 y3 y4 y5
          go_wp2_with fail
          refine hK.out _ _ hS2 (fun _ => ?_)
          clear hK K
          refine wpAnyH_take (i := 12) (v := .int .u64 (bits .andNot .u64 (s : Int) (Tide.allN lo hi : Nat))) rfl (by kernel_rfl) (by kernel_rfl) (by kernel_rfl) (fun _ _ _ h => h) (.inl ⟨by rfl, fun W hW => ?_⟩) hS2 ?_
          · obtain ⟨z0, z1, z2, z3, z4, z5⟩ := hW; go_simp
          simp only [Act.put, List.getElem_toArray, List.getElem_cons_succ, List.getElem_cons_zero, List.setIfInBounds_toArray, List.set_cons_zero, List.set_cons_succ]
          refine wpAnyH_take (i := 13) (v := .bool true) rfl (by kernel_rfl) (by kernel_rfl) (by kernel_rfl) (fun _ _ _ h => h) (.inl ⟨by rfl, fun W hW => ?_⟩) hS2 ?_
          · obtain ⟨z0, z1, z2, z3, z4, z5⟩ := hW; go_simp
          simp only [Act.put, List.getElem_toArray, List.getElem_cons_succ, List.getElem_cons_zero, List.setIfInBounds_toArray, List.set_cons_zero, List.set_cons_succ]
          refine wpAnyH_take (i := 14) (v := .bool true) rfl (by kernel_rfl) (by kernel_rfl) (by kernel_rfl) (fun _ _ _ h => h) (.inl ⟨by rfl, fun W hW => ?_⟩) hS2 ?_
          · obtain ⟨z0, z1, z2, z3, z4, z5⟩ := hW; go_simp
          simp only [Act.put, List.getElem_toArray, List.getElem_cons_succ, List.getElem_cons_zero, List.setIfInBounds_toArray, List.set_cons_zero, List.set_cons_succ]
          refine wpAnyH_take (i := 15) (v := .bool true) rfl (by kernel_rfl) (by kernel_rfl) (by kernel_rfl) (fun _ _ _ h => h) (.inl ⟨by rfl, fun W hW => ?_⟩) hS2 ?_
          · obtain ⟨z0, z1, z2, z3, z4, z5⟩ := hW; go_simp
          simp only [Act.put, List.getElem_toArray, List.getElem_cons_succ, List.getElem_cons_zero, List.setIfInBounds_toArray, List.set_cons_zero, List.set_cons_succ]
          refine wpAnyH_take (i := 16) (v := undef) rfl (by kernel_rfl) (by kernel_rfl) (by kernel_rfl) (fun _ _ _ h => h) (.inr ⟨by rfl, rfl⟩) hS2 ?_
          simp only [Act.put, List.getElem_toArray, List.getElem_cons_succ, List.getElem_cons_zero, List.setIfInBounds_toArray, List.set_cons_zero, List.set_cons_succ]
          refine wpAnyH_take (i := 17) (v := undef) rfl (by kernel_rfl) (by kernel_rfl) (by kernel_rfl) (fun _ _ _ h => h) (.inr ⟨by rfl, rfl⟩) hS2 ?_
          simp only [Act.put, List.getElem_toArray, List.getElem_cons_succ, List.getElem_cons_zero, List.setIfInBounds_toArray, List.set_cons_zero, List.set_cons_succ]
          refine wpAnyH_take (i := 18) (v := undef) rfl (by kernel_rfl) (by kernel_rfl) (by kernel_rfl) (fun _ _ _ h => h) (.inr ⟨by rfl, rfl⟩) hS2 ?_
          simp only [Act.put, List.getElem_toArray, List.getElem_cons_succ, List.getElem_cons_zero, List.setIfInBounds_toArray, List.set_cons_zero, List.set_cons_succ]
          refine wpAnyH_take (i := 19) (v := undef) rfl (by kernel_rfl) (by kernel_rfl) (by kernel_rfl) (fun _ _ _ h => h) (.inr ⟨by rfl, rfl⟩) hS2 ?_
          simp only [Act.put, List.getElem_toArray, List.getElem_cons_succ, List.getElem_cons_zero, List.setIfInBounds_toArray, List.set_cons_zero, List.set_cons_succ]
          refine wpAnyH_take (i := 20) (v := undef) rfl (by kernel_rfl) (by kernel_rfl) (by kernel_rfl) (fun _ _ _ h => h) (.inr ⟨by rfl, rfl⟩) hS2 ?_
          simp only [Act.put, List.getElem_toArray, List.getElem_cons_succ, List.getElem_cons_zero, List.setIfInBounds_toArray, List.set_cons_zero, List.set_cons_succ]
          refine wpAnyH_take (i := 21) (v := undef) rfl (by kernel_rfl) (by kernel_rfl) (by kernel_rfl) (fun _ _ _ h => h) (.inr ⟨by rfl, rfl⟩) hS2 ?_
          simp only [Act.put, List.getElem_toArray, List.getElem_cons_succ, List.getElem_cons_zero, List.setIfInBounds_toArray, List.set_cons_zero, List.set_cons_succ]
          refine wpAnyH_take (i := 22) (v := undef) rfl (by kernel_rfl) (by kernel_rfl) (by kernel_rfl) (fun _ _ _ h => h) (.inr ⟨by rfl, rfl⟩) hS2 ?_
          simp only [Act.put, List.getElem_toArray, List.getElem_cons_succ, List.getElem_cons_zero, List.setIfInBounds_toArray, List.set_cons_zero, List.set_cons_succ]
          refine wpAnyH_take (i := 23) (v := undef) rfl (by kernel_rfl) (by kernel_rfl) (by kernel_rfl) (fun _ _ _ h => h) (.inr ⟨by rfl, rfl⟩) hS2 ?_
          simp only [Act.put, List.getElem_toArray, List.getElem_cons_succ, List.getElem_cons_zero, List.setIfInBounds_toArray, List.set_cons_zero, List.set_cons_succ]
          refine wpAnyH_take (i := 24) (v := undef) rfl (by kernel_rfl) (by kernel_rfl) (by kernel_rfl) (fun _ _ _ h => h) (.inr ⟨by rfl, rfl⟩) hS2 ?_
          simp only [Act.put, List.getElem_toArray, List.getElem_cons_succ, List.getElem_cons_zero, List.setIfInBounds_toArray, List.set_cons_zero, List.set_cons_succ]
          refine wpAnyH_take (i := 25) (v := undef) rfl (by kernel_rfl) (by kernel_rfl) (by kernel_rfl) (fun _ _ _ h => h) (.inr ⟨by rfl, rfl⟩) hS2 ?_
          simp only [Act.put, List.getElem_toArray, List.getElem_cons_succ, List.getElem_cons_zero, List.setIfInBounds_toArray, List.set_cons_zero, List.set_cons_succ]
          refine wpAnyH_take (i := 26) (v := undef) rfl (by kernel_rfl) (by kernel_rfl) (by kernel_rfl) (fun _ _ _ h => h) (.inr ⟨by rfl, rfl⟩) hS2 ?_
          simp only [Act.put, List.getElem_toArray, List.getElem_cons_succ, List.getElem_cons_zero, List.setIfInBounds_toArray, List.set_cons_zero, List.set_cons_succ]
          refine wpAnyH_take (i := 27) (v := undef) rfl (by kernel_rfl) (by kernel_rfl) (by kernel_rfl) (fun _ _ _ h => h) (.inr ⟨by rfl, rfl⟩) hS2 ?_
          simp only [Act.put, List.getElem_toArray, List.getElem_cons_succ, List.getElem_cons_zero, List.setIfInBounds_toArray, List.set_cons_zero, List.set_cons_succ]
          refine wpAnyH_take (i := 28) (v := undef) rfl (by kernel_rfl) (by kernel_rfl) (by kernel_rfl) (fun _ _ _ h => h) (.inr ⟨by rfl, rfl⟩) hS2 ?_
          simp only [Act.put, List.getElem_toArray, List.getElem_cons_succ, List.getElem_cons_zero, List.setIfInBounds_toArray, List.set_cons_zero, List.set_cons_succ]
          refine wpAnyH_take (i := 29) (v := undef) rfl (by kernel_rfl) (by kernel_rfl) (by kernel_rfl) (fun _ _ _ h => h) (.inr ⟨by rfl, rfl⟩) hS2 ?_
          simp only [Act.put, List.getElem_toArray, List.getElem_cons_succ, List.getElem_cons_zero, List.setIfInBounds_toArray, List.set_cons_zero, List.set_cons_succ]
          refine wpAnyH_take (i := 30) (v := undef) rfl (by kernel_rfl) (by kernel_rfl) (by kernel_rfl) (fun _ _ _ h => h) (.inr ⟨by rfl, rfl⟩) hS2 ?_
          simp only [Act.put, List.getElem_toArray, List.getElem_cons_succ, List.getElem_cons_zero, List.setIfInBounds_toArray, List.set_cons_zero, List.set_cons_succ]
          refine wpAnyH_take (i := 31) (v := undef) rfl (by kernel_rfl) (by kernel_rfl) (by kernel_rfl) (fun _ _ _ h => h) (.inr ⟨by rfl, rfl⟩) hS2 ?_
          simp only [Act.put, List.getElem_toArray, List.getElem_cons_succ, List.getElem_cons_zero, List.setIfInBounds_toArray, List.set_cons_zero, List.set_cons_succ]
          refine wpAnyH_take (i := 32) (v := undef) rfl (by kernel_rfl) (by kernel_rfl) (by kernel_rfl) (fun _ _ _ h => h) (.inr ⟨by rfl, rfl⟩) hS2 ?_
          simp only [Act.put, List.getElem_toArray, List.getElem_cons_succ, List.getElem_cons_zero, List.setIfInBounds_toArray, List.set_cons_zero, List.set_cons_succ]
          refine wpAnyH_take (i := 33) (v := undef) rfl (by kernel_rfl) (by kernel_rfl) (by kernel_rfl) (fun _ _ _ h => h) (.inr ⟨by rfl, rfl⟩) hS2 ?_
          simp only [Act.put, List.getElem_toArray, List.getElem_cons_succ, List.getElem_cons_zero, List.setIfInBounds_toArray, List.set_cons_zero, List.set_cons_succ]
          refine wpAnyH_take (i := 34) (v := .bool true) rfl (by kernel_rfl) (by kernel_rfl) (by kernel_rfl) (fun _ _ _ h => h) (.inl ⟨by rfl, fun W hW => ?_⟩) hS2 ?_
          · obtain ⟨z0, z1, z2, z3, z4, z5⟩ := hW; go_simp
          simp only [Act.put, List.getElem_toArray, List.getElem_cons_succ, List.getElem_cons_zero, List.setIfInBounds_toArray, List.set_cons_zero, List.set_cons_succ]
          refine wpAnyH_done (by kernel_rfl) ?_ _
          go_wp2_with fail
          go_ret
          refine ⟨ret_int hfin.out.symm, ?_⟩
          exact (below_drewN ((hbw.trans (hbr.mono hbw.size)).alloc (Nat.le_trans hbw.size hbr.size) _) 1).trans (hbb2.mono (Nat.le_trans (Nat.le_trans hbw.size hbr.size) (by simp)))
    · have hj5 : j = 5 := by omega
      subst hj5
      have hfin := Lib.hid (Cr.err_yes (Cr.ok_of hok.out))
      clear hok
      go_wp2_with fail
      go_ret
      exact ⟨ret_int hfin.out.symm, hbw.trans (hbr.mono hbw.size)⟩
end Go.Proofs.YthelnkoohbnjpaaDoor


namespace Go.Proofs.YthelnkoohbnjpaaDoor
open Go.RowKit
set_option linter.unusedVariables false

/-- a date and time as a value -/
def civ (y mo d h mi s wk : Int) : Value := .agg #[.int .i64 y, .int .i64 mo, .int .i64 d, .int .i64 h, .int .i64 mi, .int .i64 s, .int .i64 wk]
def Cr.day (c : Cr) (mo d wk : Int) : Bool := hasB c.mo mo && (if c.ad || c.aw then hasB c.d d && hasB c.wk wk else hasB c.d d || hasB c.wk wk)
def Cr.fit (c : Cr) (mo d h mi wk : Int) : Bool := c.day mo d wk && hasB c.h h && hasB c.mi mi
/-- a word of 64 bits -/
def Word (s : Nat) : Prop := s < 18446744073709551616
theorem cronHas' (s : Nat) (n : Int) (w : World) (hs : Word s) : Calls Tryd.prog 39 #[.int .u64 (s : Int), .int .i64 n] w fun e w' => e = .returned (.bool (hasB s n)) ∧ w' = w :=
  (cronHas s n w hs).mono fun _ _ ⟨a, b⟩ => ⟨a, b.symm⟩

theorem bcell {W w1 : World} (hb : Below W.heap.size W w1) : (∀ b o, b < W.heap.size → w1.cell? ⟨b, o, none⟩ = W.cell? ⟨b, o, none⟩) ∧ (∀ b o, b < W.heap.size → w1.frozen? ⟨b, o, none⟩ = W.frozen? ⟨b, o, none⟩) :=
  ⟨fun b o h => hb.cell (p := ⟨b, o, none⟩) h, fun b o h => hb.frozen (p := ⟨b, o, none⟩) h⟩

set_option maxRecDepth 100000 in
set_option maxHeartbeats 3200000 in
theorem cronDay (c : Cr) (hf : c.fits) (y mo d h mi s wk : Int) (w : World) : Calls Tryd.prog 38 #[.agg c.cells, civ y mo d h mi s wk] w fun e w' => e = .returned (.bool (c.day mo d wk)) ∧ Below w.heap.size w w' := by
  obtain ⟨ci, ch, cd, cm, cw, ad, aw⟩ := c
  obtain ⟨f0, f1, f2, f3, f4⟩ := hf
  have F2 : Word cd := f2; have F3 : Word cm := f3; have F4 : Word cw := f4
  clear f0 f1 f2 f3 f4
  unfold Cr.cells civ
  go_enter Tryd.func38, Tryd.ntmps38
  go_wp2_with fail
  go_quiet ((go_at_call 39; exact Calls.quiet_of_same (cronHas' _ _ _ (by assumption))))
  cases ad <;> cases aw
  all_goals
    go_wp2_with fail
    refine (cronHas cm mo _ F3).mono ?_
    rintro e w' ⟨rfl, rfl⟩
    cases hm : hasB cm mo
    · go_wp2_with fail
      go_ret
      exact ⟨by simp [Cr.day, hm], below_drewN (((Below.refl _ _).alloc (Nat.le_refl _) _).alloc (by simp) _) _⟩
    · cases ha : hasB cd d <;> cases hb : hasB cw wk
      all_goals
        go_wp2_with fail
        go_ret
        exact ⟨by simp [Cr.day, hm, ha, hb], below_drewN (((Below.refl _ _).alloc (Nat.le_refl _) _).alloc (by simp) _) _⟩

def civ7 (y mo d h mi s wk : Int) : Array Value := #[.int .i64 y, .int .i64 mo, .int .i64 d, .int .i64 h, .int .i64 mi, .int .i64 s, .int .i64 wk]
/-- what Match answers: whether it fits, and what is wrong with the cron -/
def Cr.match (c : Cr) (mo d h mi wk : Int) : Bool := c.ok && c.fit mo d h mi wk
set_option maxRecDepth 100000 in
set_option maxHeartbeats 3200000 in
theorem cronMatch (c : Cr) (hf : c.fits) (y mo d h mi s wk : Int) (w : World) : Calls Tryd.prog 15 #[.agg c.cells, civ y mo d h mi s wk] w fun e w' => e = .returned (.tuple #[.bool (c.match mo d h mi wk), .int .i64 c.err]) ∧ Below w.heap.size w w' := by
  obtain ⟨ci, ch, cd, cm, cw, ad, aw⟩ := c
  have F0 : Word ci := hf.1; have F1 : Word ch := hf.2.1
  have HF := Lib.hid hf
  clear hf
  unfold Cr.cells civ
  go_enter Tryd.func15, Tryd.ntmps15
  go_wp2_with fail
  refine (cronCheck ⟨ci, ch, cd, cm, cw, ad, aw⟩ HF.out _).mono ?_
  rintro e w1 ⟨rfl, hb1⟩
  have hB1 : Below w.heap.size w w1 := ((((Below.refl _ _).alloc (Nat.le_refl _) _).alloc (by simp) _)).trans (hb1.mono (by simp; omega))
  cases hok : Cr.ok ⟨ci, ch, cd, cm, cw, ad, aw⟩
  · rw [Cr.err_no hok]
    go_wp2_with fail
    go_ret2
    exact ⟨by simp [Cr.match, Cr.err, hok], hB1⟩
  · rw [Cr.err_yes hok]
    obtain ⟨hc1, _⟩ := bcell hb1
    have hz1 : w.heap.size + 1 < w1.heap.size := by have := hb1.size; simp at this; omega
    clear hb1
    go_wp2_with fail
    refine (cronDay ⟨ci, ch, cd, cm, cw, ad, aw⟩ HF.out y mo d h mi s wk _).mono ?_
    rintro e w2 ⟨rfl, hb2⟩
    have hB2 : Below w.heap.size w w2 := hB1.trans (hb2.mono hB1.size)
    obtain ⟨hc2, _⟩ := bcell hb2
    have hz0 : w.heap.size < w1.heap.size := by omega
    clear hb2
    cases hd : Cr.day ⟨ci, ch, cd, cm, cw, ad, aw⟩ mo d wk
    · go_wp2_with fail
      go_ret2
      exact ⟨by simp [Cr.match, Cr.fit, Cr.err, hok, hd], hB2⟩
    · go_wp2_with fail
      refine (cronHas ch h _ F1).mono ?_
      rintro e w' ⟨rfl, rfl⟩
      cases hh : hasB ch h
      · go_wp2_with fail
        go_ret2
        exact ⟨by simp [Cr.match, Cr.fit, Cr.err, hok, hd, hh], hB2⟩
      · go_wp2_with fail
        refine (cronHas ci mi _ F0).mono ?_
        rintro e w' ⟨rfl, rfl⟩
        go_wp2_with fail
        go_ret2
        exact ⟨by simp [Cr.match, Cr.fit, Cr.err, hok, hd, hh], hB2⟩
end Go.Proofs.YthelnkoohbnjpaaDoor
