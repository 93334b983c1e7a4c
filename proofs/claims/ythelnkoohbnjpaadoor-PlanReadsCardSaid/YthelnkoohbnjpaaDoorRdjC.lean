/- The contract of the reference's Joined. -/
import Derived.Test.YthelnkoohbnjpaaDoorZTxt
import Derived.Test.YthelnkoohbnjpaaDoorRdpC
set_option linter.unusedVariables false
set_option linter.unusedSimpArgs false
namespace Go.Proofs.YthelnkoohbnjpaaDoor
open Go.RowKit
set_option linter.unusedVariables false
theorem join_first (c : UInt8) {xs : List ByteArray} {x : ByteArray} (h : xs[0]? = some x) : (⟨#[]⟩ : ByteArray) ++ x = Tide.joinB c (xs.take (0 + 1)) := by
  rw [Tide.take_of_get h, List.take_zero, List.nil_append, Tide.joinB_one]
  apply Tide.ba_ext
  rw [ByteArray.data_append]; simp
theorem join_next (c : UInt8) {xs : List ByteArray} {x : ByteArray} {k : Nat} (hk : 0 < k) (h : xs[k]? = some x) : Tide.joinB c (xs.take k) ++ ⟨#[c]⟩ ++ x = Tide.joinB c (xs.take (k + 1)) := by
  rw [Tide.take_of_get h, Tide.joinB_snoc]
  intro e
  have h1 := congrArg List.length e
  rw [List.length_take] at h1
  have := Tide.get_lt h
  simp only [List.length_nil] at h1
  omega
set_option maxRecDepth 100000 in
set_option maxHeartbeats 3200000 in
theorem refJoined (c : UInt8) (A : Option Addr) (cap : Nat) (xs : List ByteArray) (w : World) (hA : 0 < xs.length → ∃ b, A = some ⟨b, 0, none⟩ ∧ ∀ i x, xs[i]? = some x → w.cell? ⟨b, i, none⟩ = some (.string x))
    (hx : ∀ x ∈ xs, x.size ≤ 1000) (hn : xs.length ≤ 1000) : Calls Tryd.prog 35 #[.slice A xs.length cap, .string ⟨#[c]⟩] w fun e w' => e = .returned (.string (Tide.joinB c xs)) ∧ w = w' := by
  have HA := Lib.hid hA; have HX := Lib.hid hx
  have HGet := Lib.hid (fun kk => Tide.get_some xs (i := kk))
  have hn2 : (xs.length : Int) ≤ 1000 := by omega
  clear hA hx
  go_enter Tryd.func35, Tryd.ntmps35
  go_wp2_with fail
  go_loop [5, 6] (fun t y => ∃ k : Nat, k ≤ xs.length ∧ y = .int .i64 k ∧ t = .string (Tide.joinB c (xs.take k))) (fun _ y => xs.length - (intOf y).toNat)
  case atStart => exact ⟨0, by omega, rfl, rfl⟩
  case round =>
    obtain ⟨k, hk, rfl, rfl⟩ := hrel
    have i0 : (0 : Int) ≤ (k : Int) := by omega
    by_cases hlt : k < xs.length
    · have i1 : (k : Int) < (xs.length : Int) := by omega
      obtain ⟨b, rfl, hb⟩ := HA.out (by omega)
      obtain ⟨x, hx⟩ := HGet.out k hlt
      have y0 := hb k x hx
      have hxs := HX.out x (List.mem_of_getElem? hx)
      have hsz := Tide.joinB_size c (k := 1000) (l := xs.take k) (fun z hz => HX.out z (List.mem_of_mem_take hz))
      rw [List.length_take, Nat.min_eq_left hk] at hsz
      have hone : (⟨#[c]⟩ : ByteArray).size = 1 := rfl
      have HLt := Lib.hid hlt
      by_cases hk0 : k = 0
      · subst hk0
        have HE := Lib.hid (join_first c hx)
        have hz1 : (⟨#[]⟩ : ByteArray).size + x.size ≤ 9223372036854775807 := by have : (⟨#[]⟩ : ByteArray).size = 0 := rfl; omega
        clear hx hb hsz hxs hlt
        rw [show Tide.joinB c (xs.take 0) = ⟨#[]⟩ from rfl]
        go_wp2_with fail
        go_round
        case rel => exact ⟨0 + 1, HLt.out, by go_num, by rw [HE.out]⟩
        case measure => have := HLt.out; simp [intOf]; omega
      · have hkp : (0 : Int) < (k : Int) := by omega
        have HE := Lib.hid (join_next c (by omega) hx)
        have hz1 : (Tide.joinB c (xs.take k)).size + (⟨#[c]⟩ : ByteArray).size ≤ 9223372036854775807 := by omega
        have hz2 : (Tide.joinB c (xs.take k) ++ ⟨#[c]⟩).size + x.size ≤ 9223372036854775807 := by rw [ByteArray.size_append]; omega
        clear hx hb hsz hxs hlt hk0
        go_wp2_with fail
        go_round
        case rel => exact ⟨k + 1, HLt.out, by go_num, by rw [HE.out]⟩
        case measure => have := HLt.out; simp [intOf]; omega
    · have hke : k = xs.length := by omega
      have HF := Lib.hid (show Tide.joinB c (xs.take k) = Tide.joinB c xs by rw [hke, List.take_length])
      have i1 : (xs.length : Int) ≤ (k : Int) := by omega
      clear hke hk hlt
      go_wp2_with fail
      go_ret
      exact ⟨by rw [HF.out] <;> rfl, rfl⟩
end Go.Proofs.YthelnkoohbnjpaaDoor
