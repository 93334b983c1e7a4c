/- The contracts of package plan: within, named, pace. -/
import Derived.Test.YthelnkoohbnjpaaDoorPlnM
import Derived.Laws.StructEq
import Derived.Deep.DeepCutAuto
import Derived.Deep.CutBlock
set_option linter.unusedVariables false
set_option linter.unusedSimpArgs false
namespace Go.Proofs.YthelnkoohbnjpaaDoor
open Go.RowKit
set_option linter.unusedVariables false
set_option maxHeartbeats 400000 in
theorem planWithin (n lo hi : Int) (w : World) : Calls Tryd.prog 45 #[.int .i64 n, .int .i64 lo, .int .i64 hi] w fun e w' => e = .returned (.bool (wiB n lo hi)) ∧ w = w' := by
  by_cases h0 : lo ≤ n
  · by_cases h1 : n ≤ hi
    · have hv := Lib.hid (show wiB n lo hi = true by unfold wiB; simp [h0, h1])
      go_enter Tryd.func45, Tryd.ntmps45
      go_wp2
      go_ret
      exact ⟨by rw [hv.out] <;> rfl, rfl⟩
    · have hv := Lib.hid (show wiB n lo hi = false by unfold wiB; simp [h1])
      have h2 : hi < n := by omega
      have h3 : decide (n ≤ hi) = false := decide_eq_false h1
      clear h1
      go_enter Tryd.func45, Tryd.ntmps45
      go_wp2
      go_ret
      exact ⟨by rw [hv.out] <;> rfl, rfl⟩
  · have hv := Lib.hid (show wiB n lo hi = false by unfold wiB; simp [h0])
    have h2 : n < lo := by omega
    clear h0
    go_enter Tryd.func45, Tryd.ntmps45
    go_wp2
    go_ret
    exact ⟨by rw [hv.out] <;> rfl, rfl⟩
def byteAt (s : ByteArray) (k : Nat) : Nat := (s.data[k]?.getD 0).toNat
theorem byte_at {s : ByteArray} {k : Nat} (h : k < s.size) : (s[k]'h).toNat = byteAt s k := by
  unfold byteAt
  have e : s.data[k]? = some (s.data[k]'h) := Array.getElem?_eq_getElem h
  rw [e]; rfl
def byteB (x : Nat) : Bool := (decide (97 ≤ x) && decide (x ≤ 122)) || (decide (48 ≤ x) && decide (x ≤ 57)) || x == 45
theorem byteB_is (b : UInt8) : byteB b.toNat = byteOk b := by
  unfold byteB byteOk
  congr 1
  rw [Bool.eq_iff_iff]
  simp only [beq_iff_eq]
  exact ⟨fun h => UInt8.toNat_inj.1 h, fun h => by rw [h]; rfl⟩
theorem name_all (s : ByteArray) : s.data.all byteOk = true ↔ ∀ k, k < s.size → byteB (byteAt s k) = true := by
  rw [Array.all_eq_true]
  constructor
  · intro h k hk
    unfold byteAt
    rw [Array.getElem?_eq_getElem hk]
    show byteB _ = true
    rw [Option.getD_some, byteB_is]
    exact h k hk
  · intro h k hk
    have := h k hk
    unfold byteAt at this
    rw [Array.getElem?_eq_getElem hk, Option.getD_some, byteB_is] at this
    exact this
theorem name_bad {s : ByteArray} {k : Nat} (hk : k < s.size) (h : byteB (byteAt s k) = false) : nameOk s = false := by
  unfold nameOk
  cases ha : s.data.all byteOk
  · rfl
  · rw [(name_all s).1 ha k hk] at h; cases h
theorem name_good {s : ByteArray} (h : ∀ k, k < s.size → byteB (byteAt s k) = true) : nameOk s = wiB s.size 1 16 := by
  unfold nameOk
  rw [(name_all s).2 h]; rfl
theorem byteAt_bd (s : ByteArray) (k : Nat) : byteAt s k ≤ 255 := by
  unfold byteAt
  have := UInt8.toNat_lt (s.data[k]?.getD 0)
  omega
set_option maxHeartbeats 1600000 in
theorem planNamed (s : ByteArray) (hs : s.size ≤ 9223372036854775807) (w : World) : Calls Tryd.prog 44 #[.string s] w fun e w' => e = .returned (.bool (nameOk s)) ∧ w = w' := by
  go_enter Tryd.func44, Tryd.ntmps44
  go_wp2_with fail
  go_loop [7] (fun i => ∃ k : Nat, k ≤ s.size ∧ i = .int .i64 k ∧ Hid (∀ q, q < k → byteB (byteAt s q) = true)) (fun i => s.size - (intOf i).toNat)
  case atStart => exact ⟨0, by omega, rfl, Lib.hid (fun q hq => by omega)⟩
  case round =>
    obtain ⟨k, hk, rfl, HN⟩ := hrel
    by_cases hlt : k < s.size
    · have i0 : (0 : Int) ≤ (k : Int) := by omega
      have i1 : (k : Int) < (s.size : Int) := by omega
      have HYes := Lib.hid (fun (h : byteB (byteAt s k) = true) => (show ∀ q, q < k + 1 → byteB (byteAt s q) = true from fun q hq => by
        rcases Nat.lt_succ_iff_lt_or_eq.1 hq with c | c
        · exact HN.out q c
        · rw [c]; exact h))
      have HNo := Lib.hid (fun (h : byteB (byteAt s k) = false) => name_bad hlt h)
      have HVal := Lib.hid (show byteB (byteAt s k) = ((decide (97 ≤ byteAt s k) && decide (byteAt s k ≤ 122)) || (decide (48 ≤ byteAt s k) && decide (byteAt s k ≤ 57)) || byteAt s k == 45) from rfl)
      have hx := byteAt_bd s k
      go_upto_region 5 with fail
      rw [byte_at hlt]
      generalize byteAt s k = x at HYes HNo HVal hx ⊢
      have x0 : (0 : Int) ≤ (x : Int) := by omega
      have x1 : (x : Int) ≤ 255 := by omega
      have HK := Lib.hid hlt
      clear hx hk
      by_cases a1 : x < 97
      · by_cases b1 : x < 48
        · by_cases c1 : x = 45
          · have HF := Lib.hid (HYes.out (by rw [HVal.out, c1]; rfl))
            subst c1
            clear a1 b1 x0 x1 HYes HNo HVal
            go_wp2_with fail
            go_round
            case rel => exact ⟨k + 1, by have := HK.out; omega, by go_num, HF⟩
            case measure => have := HK.out; simp [intOf]; omega
          · have HF := Lib.hid (HNo.out (by rw [HVal.out, decide_eq_false (show ¬ 97 ≤ x by omega), decide_eq_false (show ¬ 48 ≤ x by omega)]; simpa using c1))
            have c2 : ((x : Int) != 45) = true := by simp; omega
            have b2 : (x : Int) < 48 := by omega
            have a2 : (x : Int) < 97 := by omega
            clear a1 b1 c1 HYes HNo HVal
            go_wp2_with fail
            go_ret
            exact ⟨by rw [HF.out] <;> rfl, rfl⟩
        · by_cases b2 : 57 < x
          · have HF := Lib.hid (HNo.out (by rw [HVal.out, decide_eq_false (show ¬ 97 ≤ x by omega), decide_eq_false (show ¬ x ≤ 57 by omega)]; simp; omega))
            have c2 : ((x : Int) != 45) = true := by simp; omega
            have b3 : (57 : Int) < (x : Int) := by omega
            have b4 : (48 : Int) ≤ (x : Int) := by omega
            have a2 : (x : Int) < 97 := by omega
            clear a1 b1 b2 HYes HNo HVal
            go_wp2_with fail
            go_ret
            exact ⟨by rw [HF.out] <;> rfl, rfl⟩
          · have HF := Lib.hid (HYes.out (by rw [HVal.out, decide_eq_true (show 48 ≤ x by omega), decide_eq_true (show x ≤ 57 by omega)]; simp))
            have b3 : (x : Int) ≤ 57 := by omega
            have b4 : (48 : Int) ≤ (x : Int) := by omega
            have a2 : (x : Int) < 97 := by omega
            clear a1 b1 b2 HYes HNo HVal
            go_wp2_with fail
            go_round
            case rel => exact ⟨k + 1, by have := HK.out; omega, by go_num, HF⟩
            case measure => have := HK.out; simp [intOf]; omega
      · by_cases a2 : 122 < x
        · have HF := Lib.hid (HNo.out (by rw [HVal.out, decide_eq_false (show ¬ x ≤ 122 by omega), decide_eq_false (show ¬ x ≤ 57 by omega)]; simp; omega))
          have c2 : ((x : Int) != 45) = true := by simp; omega
          have a3 : (122 : Int) < (x : Int) := by omega
          have b4 : (57 : Int) < (x : Int) := by omega
          have a4 : (97 : Int) ≤ (x : Int) := by omega
          clear a1 a2 HYes HNo HVal
          go_wp2_with fail
          go_ret
          exact ⟨by rw [HF.out] <;> rfl, rfl⟩
        · have HF := Lib.hid (HYes.out (by rw [HVal.out, decide_eq_true (show 97 ≤ x by omega), decide_eq_true (show x ≤ 122 by omega)]; simp))
          have a3 : (x : Int) ≤ 122 := by omega
          have a4 : (97 : Int) ≤ (x : Int) := by omega
          clear a1 a2 HYes HNo HVal
          go_wp2_with fail
          go_round
          case rel => exact ⟨k + 1, by have := HK.out; omega, by go_num, HF⟩
          case measure => have := HK.out; simp [intOf]; omega
    · have hie : k = s.size := by omega
      subst hie
      have HF := Lib.hid (name_good HN.out)
      clear hk hlt
      go_wp2_with fail
      refine (planWithin _ 1 16 _).mono ?_
      rintro e w' ⟨rfl, rfl⟩
      go_wp2_with fail
      go_ret
      exact ⟨by rw [HF.out] <;> rfl, rfl⟩
end Go.Proofs.YthelnkoohbnjpaaDoor
