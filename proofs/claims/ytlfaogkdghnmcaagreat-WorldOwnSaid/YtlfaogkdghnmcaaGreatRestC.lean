/- The contract of the reference's Rest. -/
import Derived.Test.YtlfaogkdghnmcaaGreatRows
import Derived.WalkKit
import Derived.WalkSpells
import Derived.WalkLawsBesides
import Derived.Lib.Hide
set_option linter.unusedVariables false
set_option linter.unusedSimpArgs false
namespace Go.Proofs.YtlfaogkdghnmcaaGreat
open Go.RowKit
set_option linter.unusedVariables false
theorem rest_of {n m : Int} (hm : 0 < m) : (if n.tmod m < 0 then n.tmod m + m else n.tmod m) = n % m ∧ -m < n.tmod m ∧ n.tmod m < m := by
  have h1 := Int.tmod_lt_of_pos n hm
  have h2 : -m < n.tmod m := by
    have := Int.tmod_lt_of_pos (-n) hm
    rw [Int.neg_tmod] at this; omega
  have h4 := Int.mul_tdiv_add_tmod n m
  refine ⟨?_, h2, h1⟩
  split
  · have e : n = (n.tmod m + m) + m * (n.tdiv m - 1) := by rw [Int.mul_sub]; omega
    have : n % m = (n.tmod m + m) % m := by
      conv => lhs; rw [e]
      rw [Int.add_mul_emod_self_left]
    rw [this, Int.emod_eq_of_lt (by omega) (by omega)]
  · have e : n = n.tmod m + m * n.tdiv m := by omega
    have : n % m = n.tmod m % m := by
      conv => lhs; rw [e]
      rw [Int.add_mul_emod_self_left]
    rw [this, Int.emod_eq_of_lt (by omega) (by omega)]
theorem rest_ret {a b : Int} (h : a = b) : Ending.returned (.int .i64 a) = Ending.returned (.int .i64 b) := by rw [h]
set_option maxHeartbeats 400000 in
theorem restC (n m : Int) (w : World) (hm : 1 ≤ m) (hm' : m ≤ 1000000000000) : Calls Tryz.prog 14 #[.int .i64 n, .int .i64 m] w fun e w' => e = .returned (.int .i64 (n % m)) ∧ w = w' := by
  obtain ⟨h, b0, b1⟩ := rest_of (n := n) (show 0 < m by omega)
  have he := Lib.hid h
  clear h
  by_cases hn : n.tmod m < 0
  · go_enter Tryz.func14, Tryz.ntmps14
    go_wp2
    go_ret
    exact ⟨rest_ret (by have := he.out; rw [if_pos hn] at this; exact this), rfl⟩
  · go_enter Tryz.func14, Tryz.ntmps14
    go_wp2
    go_ret
    exact ⟨rest_ret (by have := he.out; rw [if_neg (by omega)] at this; exact this), rfl⟩
end Go.Proofs.YtlfaogkdghnmcaaGreat
