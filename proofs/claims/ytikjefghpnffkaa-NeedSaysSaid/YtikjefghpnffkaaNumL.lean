/- The walks of the laws on numbers: NumCeil, NumLaws, NumShare, NumSays answer true at every input. -/
import Derived.Test.YtikjefghpnffkaaNumR
import Derived.OpenShut
import Derived.Handy
namespace Go.Proofs.Ytikjefghpnffkaa
set_option linter.unusedVariables false
open Go.RowKit

def rest (n m : Int) : Int := n % m
theorem rest_eq {n m : Int} (hm : 0 < m) : (if n.tmod m < 0 then n.tmod m + m else n.tmod m) = n % m := by
  have h := tdiv_floor n m hm
  have h3 := Int.mul_ediv_add_emod n m
  have h4 := Int.mul_tdiv_add_tmod n m
  split at h
  · rename_i c
    rw [if_pos c]
    have : m * (n.tdiv m - 1) = m * n.tdiv m - m := by rw [Int.mul_sub]; omega
    rw [h] at this; omega
  · rename_i c
    rw [if_neg c]
    rw [← h] at h3; omega
theorem tmod_bd (a : Int) {b : Int} (h : 0 < b) : -b < a.tmod b ∧ a.tmod b < b := by
  have h4 := Int.tmod_lt_of_pos a h
  have := Int.tmod_lt_of_pos (-a) h
  rw [Int.neg_tmod] at this; omega
set_option maxHeartbeats 400000 in
theorem refRest (n m : Int) (w : World) (hm : 1 ≤ m) (hm' : m ≤ 1000000000000) : Calls Try.prog 18 #[.int .i64 n, .int .i64 m] w fun e w' => e = .returned (.int .i64 (rest n m)) ∧ w = w' := by
  obtain ⟨b0, b1⟩ := tmod_bd n (show 0 < m by omega)
  have he := Lib.hid (rest_eq (n := n) (show 0 < m by omega))
  by_cases hn : n.tmod m < 0
  · go_enter Try.func18, Try.ntmps18
    go_wp2
    go_ret
    exact ⟨ret_int (by have := he.out; rw [if_pos hn] at this; exact this), rfl⟩
  · go_enter Try.func18, Try.ntmps18
    go_wp2
    go_ret
    exact ⟨ret_int (by have := he.out; rw [if_neg (by omega)] at this; exact this), rfl⟩

/-- shares of numbers in bounds -/
theorem share_facts {a b m : Int} (ha : 0 ≤ a) (ha' : a < 1000000000) (hb : 0 ≤ b) (hb' : b < 1000000000) (hm : 0 ≤ m) (hm' : m < 100000) :
    Tide.sharec a 1000 = a ∧ Tide.sharec a 0 = 0 ∧ Tide.sharec a m + Tide.sharec b m ≤ Tide.sharec (a + b) m ∧ Tide.sharec (a + b) m ≤ Tide.sharec a m + Tide.sharec b m + 1 ∧ Tide.sharec a m = a * m / 1000 ∧
      0 ≤ a * m ∧ a * m ≤ 100000000000000 ∧ 0 ≤ Tide.sharec a m ∧ Tide.sharec a m ≤ 100000000000 ∧ 0 ≤ Tide.sharec b m ∧ Tide.sharec b m ≤ 100000000000 := by
  rw [Tide.sharec_of (a := a) (m := 1000) ha (by omega) (by omega) (by omega), Tide.sharec_of (a := a) (m := 0) ha (by omega) (by omega) (by omega), Tide.sharec_of (a := a) (m := m) ha hm (by omega) (by omega), Tide.sharec_of (a := b) (m := m) hb hm (by omega) (by omega), Tide.sharec_of (a := a + b) (m := m) (by omega) hm (by omega) (by omega), Int.add_mul]
  have h1 : 0 ≤ a * m := Int.mul_nonneg ha hm
  have h2 : a * m ≤ 1000000000 * 100000 := Int.mul_le_mul (by omega) (by omega) hm (by omega)
  have h3 : 0 ≤ b * m := Int.mul_nonneg hb hm
  have h4 : b * m ≤ 1000000000 * 100000 := Int.mul_le_mul (by omega) (by omega) hm (by omega)
  generalize a * m = x at *
  generalize b * m = y at *
  omega

end Go.Proofs.Ytikjefghpnffkaa
