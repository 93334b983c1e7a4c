/- The contracts of cron.number and of the reference's digits. -/
import Derived.Test.YthelnkoohbnjpaaDoorTxtN
import Derived.Test.YthelnkoohbnjpaaDoorInC
set_option linter.unusedVariables false
set_option linter.unusedSimpArgs false
namespace Go.Proofs.YthelnkoohbnjpaaDoor
open Go.RowKit
set_option linter.unusedVariables false
theorem digB_yes {b : UInt8} {x : Nat} (e : x = b.toNat) (h1 : 48 ≤ x) (h2 : x ≤ 57) : Tide.digB b = true := by subst e; unfold Tide.digB; rw [decide_eq_true h1, decide_eq_true h2]; rfl
theorem digB_low {b : UInt8} {x : Nat} (e : x = b.toNat) (h : x < 48) : Tide.digB b = false := by subst e; unfold Tide.digB; rw [decide_eq_false (by omega)]; rfl
theorem digB_high {b : UInt8} {x : Nat} (e : x = b.toNat) (h : 57 < x) : Tide.digB b = false := by subst e; unfold Tide.digB; rw [decide_eq_false (show ¬ b.toNat ≤ 57 by omega), Bool.and_false]
theorem dig_snoc {l : List UInt8} {k : Nat} {b : UInt8} {x : Nat} (hb : l[k]? = some b) (e : x = b.toNat) (h1 : 48 ≤ x) (h2 : x ≤ 57) (ha : (l.take k).all Tide.digB = true) : (l.take (k + 1)).all Tide.digB = true ∧ Tide.valL (l.take (k + 1)) = 10 * Tide.valL (l.take k) + ((x : Int) - 48) := by
  rw [Tide.take_of_get hb, List.all_append, ha, Tide.valL_snoc, e]
  refine ⟨?_, rfl⟩
  simp [digB_yes e h1 h2]
theorem u8_in (x : Int) (h0 : 0 ≤ x) (h1 : x ≤ 255) : IntKind.u8.wrap x = x := by rw [IntKind.wrap_u8]; omega
set_option maxHeartbeats 3200000 in
theorem cronNumber (s : ByteArray) (hs : s.size ≤ 1000000) (w : World) : Calls Tryd.prog 73 #[.string s] w fun e w' => e = .returned (.int .i64 (Tide.numL 2 s.data.toList)) ∧ w = w' := by
  have hz := Tide.ba_size s
  by_cases hl : s.size < 1
  · have HF := Lib.hid (Tide.numL_size (most := 2) (l := s.data.toList) (by omega))
    have hl2 : (s.size : Int) < 1 := by omega
    clear hl hz
    go_enter Tryd.func73, Tryd.ntmps73
    go_wp2_with fail
    go_ret
    exact ⟨by rw [HF.out] <;> rfl, rfl⟩
  by_cases hl3 : 2 < s.size
  · have HF := Lib.hid (Tide.numL_size (most := 2) (l := s.data.toList) (by omega))
    have hl2 : (2 : Int) < (s.size : Int) := by omega
    have hl4 : (1 : Int) ≤ (s.size : Int) := by omega
    clear hl hz hl3
    go_enter Tryd.func73, Tryd.ntmps73
    go_wp2_with fail
    go_ret
    exact ⟨by rw [HF.out] <;> rfl, rfl⟩
  have h1 : (1 : Int) ≤ (s.size : Int) := by omega
  have h2 : (s.size : Int) ≤ 2 := by omega
  have HZ := Lib.hid hz
  have HS1 := Lib.hid (show 1 ≤ s.size by omega); have HS2 := Lib.hid (show s.size ≤ 2 by omega)
  clear hz hl hl3 hs
  go_enter Tryd.func73, Tryd.ntmps73
  go_wp2_with fail
  go_loop [3, 15] (fun n i => ∃ k : Nat, k ≤ s.size ∧ i = .int .i64 k ∧ n = .int .i64 (Tide.valL (s.data.toList.take k)) ∧ Hid ((s.data.toList.take k).all Tide.digB = true)) (fun _ i => s.size - (intOf i).toNat)
  case atStart => exact ⟨0, by omega, rfl, rfl, Lib.hid rfl⟩
  case round =>
    obtain ⟨k, hk, rfl, rfl, HA⟩ := hrel
    by_cases hlt : k < s.size
    · have i0 : (0 : Int) ≤ (k : Int) := by omega
      have i1 : (k : Int) < (s.size : Int) := by omega
      obtain ⟨b, hb, hx⟩ := byte_get hlt
      have hv := Tide.valL_bd k (s.data.toList.take k) (by rw [List.length_take]; have := HZ.out; omega) HA.out
      have hv2 : Tide.valL (s.data.toList.take k) < 100 := by
        have e : (10 : Int) ^ k ≤ 10 ^ 2 := by exact_mod_cast Nat.pow_le_pow_right (show 0 < 10 by decide) (show k ≤ 2 by omega)
        have : (10 : Int) ^ 2 = 100 := by decide
        omega
      have hv0 := hv.1
      have HNx := Lib.hid (fun h1 h2 => dig_snoc hb hx h1 h2 HA.out)
      have HB1 := Lib.hid (fun h => Tide.numL_bad (most := 2) hb (digB_low hx h))
      have HB2 := Lib.hid (fun h => Tide.numL_bad (most := 2) hb (digB_high hx h))
      have HLt := Lib.hid hlt
      clear hv hb hx HA
      have e7 := byte_at hlt
      have hxb := byteAt_bd s k
      generalize Tide.valL (s.data.toList.take k) = n at HNx hv0 hv2 ⊢
      generalize byteAt s k = x at HNx HB1 HB2 hxb e7 ⊢
      have x0 : (0 : Int) ≤ (x : Int) := by omega
      by_cases a1 : x < 48
      · have HF := Lib.hid (HB1.out a1)
        have a2 : (x : Int) < 48 := by omega
        clear a1 HNx HB1 HB2
        go_wp2_with fail
        go_ret
        exact ⟨by rw [HF.out] <;> rfl, rfl⟩
      by_cases a2 : 57 < x
      · have HF := Lib.hid (HB2.out a2)
        have a3 : (57 : Int) < (x : Int) := by omega
        have a4 : (48 : Int) ≤ (x : Int) := by omega
        clear a1 a2 HNx HB1 HB2
        go_wp2_with fail
        go_ret
        exact ⟨by rw [HF.out] <;> rfl, rfl⟩
      · have HN := Lib.hid (HNx.out (by omega) (by omega))
        have a3 : (x : Int) ≤ 57 := by omega
        have a4 : (48 : Int) ≤ (x : Int) := by omega
        have q1 : IntKind.u8.wrap ((x : Int) - 48) = (x : Int) - 48 := u8_in _ (by omega) (by omega)
        have q2 : IntKind.i64.wrap ((x : Int) - 48) = (x : Int) - 48 := IntWalk.i64_in _ (by omega)
        have q3 : IntKind.i64.wrap (10 * n) = 10 * n := IntWalk.i64_in _ (by omega)
        have q4 : IntKind.i64.wrap (10 * n + ((x : Int) - 48)) = 10 * n + ((x : Int) - 48) := IntWalk.i64_in _ (by omega)
        clear a1 a2 HNx HB1 HB2
        go_wp2_with fail
        go_round
        case rel => exact ⟨k + 1, by have := HLt.out; omega, by go_num, by rw [HN.out.2], Lib.hid HN.out.1⟩
        case measure => have := HLt.out; simp [intOf]; omega
    · have hke : k = s.size := by omega
      subst hke
      have HF := Lib.hid (show Tide.numL 2 s.data.toList = Tide.valL (s.data.toList.take s.size) by
        have h3 := HA.out
        have e : s.data.toList.take s.size = s.data.toList := by rw [HZ.out, List.take_length]
        rw [e] at h3 ⊢
        exact Tide.numL_yes (by have := HZ.out; have := HS1.out; omega) (by have := HZ.out; have := HS2.out; omega) h3)
      clear hk hlt HA
      go_wp2_with fail
      go_ret
      exact ⟨by rw [HF.out] <;> rfl, rfl⟩
set_option maxHeartbeats 3200000 in
theorem refDigits (s : ByteArray) (most : Nat) (hs : s.size ≤ 1000000) (hm1 : 1 ≤ most) (hm2 : most ≤ 8) (w : World) : Calls Tryd.prog 56 #[.string s, .int .i64 most] w fun e w' => e = .returned (.int .i64 (Tide.numL most s.data.toList)) ∧ w = w' := by
  have HZ := Lib.hid (Tide.ba_size s)
  have hs2 : (s.size : Int) ≤ 1000000 := by omega
  have m1 : (1 : Int) ≤ (most : Int) := by omega
  have m2 : (most : Int) ≤ 8 := by omega
  clear hs
  go_enter Tryd.func56, Tryd.ntmps56
  go_wp2_with fail
  go_loop [5, 6] (fun n i => ∃ k : Nat, k ≤ s.size ∧ k ≤ most + 1 ∧ i = .int .i64 k ∧ n = .int .i64 (Tide.valL (s.data.toList.take k)) ∧ Hid ((s.data.toList.take k).all Tide.digB = true)) (fun _ i => s.size - (intOf i).toNat)
  case atStart => exact ⟨0, by omega, by omega, rfl, rfl, Lib.hid rfl⟩
  case round =>
    obtain ⟨k, hk, hkm, rfl, rfl, HA⟩ := hrel
    have i0 : (0 : Int) ≤ (k : Int) := by omega
    by_cases hlt : k < s.size
    · have i1 : (k : Int) < (s.size : Int) := by omega
      by_cases hmk : k ≤ most
      · have i2 : (k : Int) ≤ (most : Int) := by omega
        obtain ⟨b, hb, hx⟩ := byte_get hlt
        have hv := Tide.valL_bd k (s.data.toList.take k) (by rw [List.length_take]; have := HZ.out; omega) HA.out
        have hv2 : Tide.valL (s.data.toList.take k) < 100000000 := by
          have e : (10 : Int) ^ k ≤ 10 ^ 8 := by exact_mod_cast Nat.pow_le_pow_right (show 0 < 10 by decide) (show k ≤ 8 by omega)
          have : (10 : Int) ^ 8 = 100000000 := by decide
          omega
        have hv0 := hv.1
        have HNx := Lib.hid (fun h1 h2 => dig_snoc hb hx h1 h2 HA.out)
        have HB1 := Lib.hid (fun h => Tide.numL_bad (most := most) hb (digB_low hx h))
        have HB2 := Lib.hid (fun h => Tide.numL_bad (most := most) hb (digB_high hx h))
        have HLt := Lib.hid hlt; have HMk := Lib.hid hmk
        clear hv hb hx HA hmk
        have e7 := byte_at hlt
        have hxb := byteAt_bd s k
        generalize Tide.valL (s.data.toList.take k) = n at HNx hv0 hv2 ⊢
        generalize byteAt s k = x at HNx HB1 HB2 hxb e7 ⊢
        have x0 : (0 : Int) ≤ (x : Int) := by omega
        by_cases a1 : x < 48
        · have HF := Lib.hid (HB1.out a1)
          have a2 : (x : Int) < 48 := by omega
          clear a1 HNx HB1 HB2
          go_wp2_with fail
          go_ret
          exact ⟨by rw [HF.out] <;> rfl, rfl⟩
        by_cases a2 : 57 < x
        · have HF := Lib.hid (HB2.out a2)
          have a3 : (57 : Int) < (x : Int) := by omega
          have a4 : (48 : Int) ≤ (x : Int) := by omega
          clear a1 a2 HNx HB1 HB2
          go_wp2_with fail
          go_ret
          exact ⟨by rw [HF.out] <;> rfl, rfl⟩
        · have HN := Lib.hid (HNx.out (by omega) (by omega))
          have a3 : (x : Int) ≤ 57 := by omega
          have a4 : (48 : Int) ≤ (x : Int) := by omega
          have q1 : IntKind.i64.wrap (x : Int) = (x : Int) := IntWalk.i64_in _ (by omega)
          have q3 : IntKind.i64.wrap (n * 10) = n * 10 := IntWalk.i64_in _ (by omega)
          have q4 : IntKind.i64.wrap (n * 10 + (x : Int)) = n * 10 + (x : Int) := IntWalk.i64_in _ (by omega)
          have q5 : IntKind.i64.wrap (n * 10 + (x : Int) - 48) = n * 10 + (x : Int) - 48 := IntWalk.i64_in _ (by omega)
          have HE := Lib.hid (show n * 10 + (x : Int) - 48 = Tide.valL (s.data.toList.take (k + 1)) by rw [HN.out.2]; omega)
          clear a1 a2 HNx HB1 HB2
          go_wp2_with fail
          go_round
          case rel => exact ⟨k + 1, by have := HLt.out; omega, by have := HMk.out; omega, by go_num, by rw [← HE.out] <;> rfl, Lib.hid HN.out.1⟩
          case measure => have := HLt.out; simp [intOf]; omega
      · have hke : k = most + 1 := by omega
        have HF := Lib.hid (Tide.numL_size (most := most) (l := s.data.toList) (.inr (by have := HZ.out; omega)))
        have i2 : (most : Int) < (k : Int) := by omega
        have i3 : s.size < 1 ∨ (most : Int) < (s.size : Int) := by omega
        clear hk hlt hmk hke hkm HA
        go_wp2_with fail
        refine (refIn_no (s.size : Int) 1 most _ (.inr (by omega))).mono ?_
        rintro e w' ⟨rfl, rfl⟩
        go_wp2_with fail
        go_ret
        exact ⟨by rw [HF.out] <;> rfl, rfl⟩
    · have hke : k = s.size := by omega
      subst hke
      have ht : s.data.toList.take s.size = s.data.toList := by rw [HZ.out, List.take_length]
      have ha := HA.out
      rw [ht] at ha ⊢
      by_cases h9 : 1 ≤ s.size ∧ s.size ≤ most
      · have HF := Lib.hid (show Tide.numL most s.data.toList = Tide.valL s.data.toList from Tide.numL_yes (by have := HZ.out; omega) (by have := HZ.out; omega) ha)
        obtain ⟨g1, g2⟩ := h9
        have g3 : (1 : Int) ≤ (s.size : Int) := by omega
        have g4 : (s.size : Int) ≤ (most : Int) := by omega
        clear hk hlt HA ha ht hkm g1 g2
        go_wp2_with fail
        refine (refIn_yes (s.size : Int) 1 most _ g3 g4).mono ?_
        rintro e w' ⟨rfl, rfl⟩
        go_wp2_with fail
        go_ret
        exact ⟨by rw [HF.out] <;> rfl, rfl⟩
      · have HF := Lib.hid (Tide.numL_size (most := most) (l := s.data.toList) (by have := HZ.out; omega))
        have HG := Lib.hid (show (s.size : Int) < 1 ∨ (most : Int) < (s.size : Int) by omega)
        clear hk hlt HA ha ht hkm h9
        go_wp2_with fail
        refine (refIn_no (s.size : Int) 1 most _ HG.out).mono ?_
        rintro e w' ⟨rfl, rfl⟩
        go_wp2_with fail
        go_ret
        exact ⟨by rw [HF.out] <;> rfl, rfl⟩
end Go.Proofs.YthelnkoohbnjpaaDoor
