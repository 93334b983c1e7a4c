/- The contracts of package cron: has, all, fields, Check, day, Match. -/
import Derived.Test.YthelnkoohbnjpaaDoorRows
import Derived.WalkKit
import Derived.WalkSpells
import Derived.WalkLawsBesides
import Derived.Lib.Hide
import Derived.Handy
import Derived.Deep.QuietTactic
import Derived.BigQuiet
import Derived.Test.YthelnkoohbnjpaaDoorMem
import Derived.Test.YthelnkoohbnjpaaDoorCronM
import Derived.BigRegion
set_option linter.unusedVariables false
set_option linter.unusedSimpArgs false
namespace Go.Proofs.YthelnkoohbnjpaaDoor
open Go.RowKit
set_option linter.unusedVariables false

theorem ret_int {k : IntKind} {a b : Int} (h : a = b) : Ending.returned (.int k a) = .returned (.int k b) := by rw [h]

/-- is n in the set s? -/
def hasB (s : Nat) (n : Int) : Bool := decide (0 ≤ n) && decide (n < 64) && s.testBit n.toNat
set_option maxHeartbeats 400000 in
theorem cronHas (s : Nat) (n : Int) (w : World) (hs : s < 18446744073709551616) : Calls Tryd.prog 39 #[.int .u64 (s : Int), .int .i64 n] w fun e w' => e = .returned (.bool (hasB s n)) ∧ w = w' := by
  by_cases h0 : 0 ≤ n
  · by_cases h1 : n < 64
    · obtain ⟨k, rfl⟩ := Int.eq_ofNat_of_zero_le h0
      have hb := Lib.hid (Tide.shift_bit s k hs)
      have k1 : Hid (hasB s (k : Int) = s.testBit k) := by show _ = _; unfold hasB; simp; omega
      have s0 : (0 : Int) ≤ (s : Int) := by omega
      have s1 := Lib.hid hs
      clear hs
      go_enter Tryd.func39, Tryd.ntmps39
      go_wp2
      go_ret
      refine ⟨?_, rfl⟩
      rw [k1.out, ← hb.out]
      first | rfl | (simp; done)
    · have k : hasB s n = false := by unfold hasB; simp [h1]
      rw [k]
      clear hs
      go_enter Tryd.func39, Tryd.ntmps39
      go_wp2
      go_ret
      exact ⟨rfl, rfl⟩
  · have k : hasB s n = false := by unfold hasB; simp [h0]
    rw [k]
    clear hs
    go_enter Tryd.func39, Tryd.ntmps39
    go_wp2
    go_ret
    exact ⟨rfl, rfl⟩
theorem pow_u64 {k : Nat} (h : k ≤ 62) : IntKind.u64.wrap ((2 : Int) ^ k) = ((2 ^ k : Nat) : Int) := by
  have e : ((2 : Int) ^ k) = ((2 ^ k : Nat) : Int) := by simp
  rw [e]
  exact Tide.wrap_u64_nat _ (Nat.lt_of_le_of_lt (Nat.pow_le_pow_right (by omega) h) (by decide))
theorem all_eq {lo hi : Nat} (h1 : lo ≤ hi) (h2 : hi ≤ 60) : IntKind.u64.wrap (IntKind.u64.wrap ((2 : Int) ^ ((hi : Int) + 1).toNat) - IntKind.u64.wrap ((2 : Int) ^ ((lo : Int)).toNat)) = ((Tide.allN lo hi : Nat) : Int) := by
  rw [show ((hi : Int) + 1).toNat = hi + 1 by omega, show ((lo : Int)).toNat = lo by omega, pow_u64 (by omega), pow_u64 (by omega)]
  have h3 : 2 ^ lo ≤ 2 ^ (hi + 1) := Nat.pow_le_pow_right (by omega) (by omega)
  have := Tide.allN_lt lo hi (by omega)
  have e : (((2 ^ (hi + 1) : Nat) : Int) - ((2 ^ lo : Nat) : Int)) = ((Tide.allN lo hi : Nat) : Int) := by unfold Tide.allN; omega
  rw [e]
  exact Tide.wrap_u64_nat _ (by omega)
set_option maxHeartbeats 400000 in
theorem cronAll (lo hi : Nat) (a b : Value) (w : World) (h1 : lo ≤ hi) (h2 : hi ≤ 60) : Calls Tryd.prog 40 #[.agg #[a, .int .i64 lo, .int .i64 hi, b]] w fun e w' => e = .returned (.int .u64 (Tide.allN lo hi : Nat)) ∧ Below w.heap.size w w' := by
  have he := Lib.hid (all_eq h1 h2)
  have l0 : (0 : Int) ≤ (lo : Int) := by omega
  have l1 : (lo : Int) ≤ 60 := by omega
  have l2 : (hi : Int) ≤ 60 := by omega
  go_enter Tryd.func40, Tryd.ntmps40
  go_wp2
  go_quiet (fail)
  go_wp2
  go_ret
  refine ⟨?_, by exact ⟨rfl, rfl, rfl, by simp, fun k hk => Below.heap_alloc w _ k hk⟩⟩
  rw [← he.out]
  first | rfl | (simp; done)

/-- the table of fields of the cron in block g -/
def fieldCells (g : Nat) : Array Value := #[.pointer (some ⟨g, 0, none⟩), .int .i64 0, .int .i64 59, .pointer none,
  .pointer (some ⟨g, 1, none⟩), .int .i64 0, .int .i64 23, .pointer none,
  .pointer (some ⟨g, 2, none⟩), .int .i64 1, .int .i64 31, .pointer (some ⟨g, 5, none⟩),
  .pointer (some ⟨g, 3, none⟩), .int .i64 1, .int .i64 12, .pointer none,
  .pointer (some ⟨g, 4, none⟩), .int .i64 0, .int .i64 6, .pointer (some ⟨g, 6, none⟩)]
def FieldsPost (w0 : World) (g : Nat) (e : Ending) (w' : World) : Prop := ∃ h, e = .returned (.slice (some ⟨h, 0, none⟩) 5 5) ∧ w0.heap.size ≤ h ∧ Tide.At w' h 61 (fieldCells g) ∧ Below w0.heap.size w0 w'
set_option maxRecDepth 100000 in
set_option maxHeartbeats 800000 in
theorem cronFields (g : Nat) (w : World) (c : Array Value) (hc : Tide.At w g 24 c) (hsz : c.size = 7) : Calls Tryd.prog 27 #[.pointer (some ⟨g, 0, none⟩)] w (FieldsPost w g) := by
  go_enter Tryd.func27, Tryd.ntmps27
  go_wp2_with fail
  go_region
  all_goals
    go_wp2_with fail
    go_ret
    exact ⟨_, rfl, Nat.le_refl _, (Tide.At.made w _ _).drew, ((Below.refl _ _).alloc (Nat.le_refl _) _).drew⟩
end Go.Proofs.YthelnkoohbnjpaaDoor
