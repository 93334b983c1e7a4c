/- The contracts of plan.number and of the reference's Whole. -/
import Derived.Test.YthelnkoohbnjpaaDoorZPrd
import Derived.Test.YthelnkoohbnjpaaDoorRdnC
import Derived.Deep.DeepCutAuto
set_option linter.unusedVariables false
set_option linter.unusedSimpArgs false
namespace Go.Proofs.YthelnkoohbnjpaaDoor
open Go.RowKit
set_option linter.unusedVariables false
def WholePost (s : ByteArray) (w : World) (e : Ending) (w' : World) : Prop := e = .returned (.tuple #[.int .i64 (if wOk s = true then wV s else 0), .bool (wOk s)]) ∧ w = w'
theorem whole_none {s : ByteArray} {w : World} (h : wOk s = false) : WholePost s w (.returned (.tuple #[.int .i64 0, .bool false])) w := ⟨by rw [h]; rfl, rfl⟩
theorem whole_some {s : ByteArray} {w : World} {n : Int} (h : wOk s = true) (hn : wV s = n) : WholePost s w (.returned (.tuple #[.int .i64 n, .bool true])) w := ⟨by rw [h, hn]; rfl, rfl⟩
theorem head_byte {d : ByteArray} (h : 0 < d.size) : d.data.toList.head? = some 48 ↔ byteAt d 0 = 48 := by
  obtain ⟨b, hb, hx⟩ := byte_get h
  rw [List.head?_eq_getElem?, hb, hx]
  constructor
  · intro e; cases e; rfl
  · intro e; rw [show b = 48 from UInt8.toNat_inj.1 e]
theorem minus_byte {s : ByteArray} (h : 0 < s.size) : Tide.minusL s.data.toList = (byteAt s 0 == 45) := by
  obtain ⟨b, hb, hx⟩ := byte_get h
  unfold Tide.minusL
  rw [List.head?_eq_getElem?, hb, hx]
  by_cases e : b = 45
  · subst e; rfl
  · have h1 : (some b == some (45 : UInt8)) = false := by simpa using e
    have h2 : (b.toNat == 45) = false := by simpa using fun h => e (UInt8.toNat_inj.1 h)
    rw [h1, h2]
theorem minus_none {s : ByteArray} (h : s.size = 0) : Tide.minusL s.data.toList = false := by
  have : s.data.toList = [] := List.length_eq_zero_iff.1 (by rw [← Tide.ba_size]; exact h)
  rw [this]; rfl
set_option maxRecDepth 100000 in
set_option maxHeartbeats 3200000 in
theorem planNumber (s : ByteArray) (hs : s.size ≤ 1000000) (w : World) : Calls Tryd.prog 77 #[.string s] w (WholePost s w) := by
  obtain ⟨d, hd⟩ : ∃ d : ByteArray, (⟨(Lib.trimPrefix s.data.toList [45]).toArray⟩ : ByteArray) = d := ⟨_, rfl⟩
  have hdd : d.data.toList = Tide.digsL s.data.toList := by rw [← hd]; show (Lib.trimPrefix _ _).toArray.toList = _; rw [List.toList_toArray, Tide.trim_minus]
  obtain ⟨mb, hmb⟩ : ∃ mb, Tide.minusL s.data.toList = mb := ⟨_, rfl⟩
  have HCut := Lib.hid (show ∀ W, Calls Tryd.prog 90 #[.string s, .string ⟨#[45]⟩] W fun e w' => e = .returned (.tuple #[.string d, .bool mb]) ∧ W = w' from fun W => by
    have h := Tryd.strings_CutPrefix s ⟨#[45]⟩ W
    rw [show (⟨#[45]⟩ : ByteArray).data.toList = [45] from rfl, hd, Tide.has_minus, hmb] at h
    exact h.mono fun _ _ q => ⟨q.1, q.2.symm⟩)
  have hsz := Tide.ba_size d
  rw [hdd] at hsz
  have HFew := Lib.hid (fun (h : d.size < 1 ∨ 7 < d.size) => whole_none (s := s) (w := w) (Tide.whole_few (by rw [← hsz]; exact h)))
  have HNou := Lib.hid (fun (h0 : 0 < d.size) (h : byteAt d 0 = 48) (h2 : 1 < d.size ∨ mb = true) => whole_none (s := s) (w := w) (Tide.whole_nought (by rw [← hdd]; exact (head_byte h0).2 h) (by rw [← hsz, hmb]; exact h2)))
  have HBad := Lib.hid (fun (k : Nat) (b : UInt8) (h : d.data.toList[k]? = some b) (hb : Tide.digB b = false) => whole_none (s := s) (w := w) (Tide.whole_bad (by rw [← hdd]; exact h) hb))
  have HGood := Lib.hid (fun (h1 : 1 ≤ d.size) (h2 : d.size ≤ 7) (h3 : ¬ (byteAt d 0 = 48 ∧ (1 < d.size ∨ mb = true))) (h4 : d.data.toList.all Tide.digB = true) => by
    obtain ⟨q1, q2⟩ := Tide.whole_good (l := s.data.toList) (by rw [← hsz]; exact h1) (by rw [← hsz]; exact h2) (by rw [← hsz, hmb, ← hdd, head_byte (by omega)]; exact h3) (by rw [← hdd]; exact h4)
    rw [hmb, ← hdd] at q2
    exact (whole_some (s := s) (w := w) q1 q2 : WholePost s w (.returned (.tuple #[.int .i64 (if mb = true then -Tide.valL d.data.toList else Tide.valL d.data.toList), .bool true])) w))
  have HZ := Lib.hid (Tide.ba_size d)
  obtain ⟨q, hq⟩ : ∃ q, (!wiB (d.size : Int) 1 7 || ((byteAt d 0 == 48) && (decide (1 < d.size) || mb))) = q := ⟨_, rfl⟩
  have HQ := Lib.hid hq
  have hdl : d.size ≤ 1000000 := by
    have h1 := HZ.out
    rw [hdd] at h1
    have h2 := Tide.ba_size s
    have : (Tide.digsL s.data.toList).length ≤ s.data.toList.length := by
      unfold Tide.digsL; split
      · rw [List.length_tail]; omega
      · exact Nat.le_refl _
    omega
  have hdl2 : (d.size : Int) ≤ 1000000 := by omega
  clear hd hdd hmb hsz hq hs hdl
  go_enter Tryd.func77, Tryd.ntmps77
  go_wp2_with fail
  refine (HCut.out _).mono ?_
  rintro e w1 ⟨rfl, rfl⟩
  clear HCut
  go_upto_region 2 with fail
  go_cut [29] (fun v wx => v = .bool q ∧ w = wx)
  case first =>
    go_wp2_with fail
    refine (planWithin (d.size : Int) 1 7 _).mono ?_
    rintro e w1 ⟨rfl, rfl⟩
    by_cases hsz : 1 ≤ d.size ∧ d.size ≤ 7
    · have hw1 : wiB (d.size : Int) 1 7 = true := wiB_iff.2 (by omega)
      rw [hw1] at HQ ⊢
      have h0 : 0 < d.size := by omega
      have i1 : (0 : Int) < (d.size : Int) := by omega
      have e7 := byte_at h0
      by_cases hx : byteAt d 0 = 48
      · rw [hx] at e7 HQ
        by_cases h1 : 1 < d.size
        · have HV := Lib.hid (show q = true by rw [← HQ.out, decide_eq_true h1]; rfl)
          have i2 : (1 : Int) < (d.size : Int) := by omega
          clear HQ hw1 hsz hx h1
          go_wp2_with fail
          go_meet
          exact ⟨by rw [HV.out] <;> rfl, rfl⟩
        · have HV := Lib.hid (show q = mb by rw [← HQ.out, decide_eq_false h1]; rfl)
          have i2 : (d.size : Int) ≤ 1 := by omega
          have i3 : decide ((1 : Int) < (d.size : Int)) = false := decide_eq_false (by omega)
          clear HQ hw1 hsz hx h1
          go_wp2_with fail
          go_meet
          exact ⟨by rw [HV.out] <;> rfl, rfl⟩
      · have HV := Lib.hid (show q = false by rw [← HQ.out, show (byteAt d 0 == 48) = false by simpa using hx]; rfl)
        clear HQ hw1 hsz
        generalize byteAt d 0 = x at hx e7
        have hx2 : ((x : Int) == 48) = false := by simp; omega
        clear hx
        go_wp2_with fail
        go_meet
        exact ⟨by rw [HV.out] <;> rfl, rfl⟩
    · have hw1 : wiB (d.size : Int) 1 7 = false := by
        cases h : wiB (d.size : Int) 1 7
        · rfl
        · have := wiB_iff.1 h; omega
      rw [hw1] at HQ ⊢
      have HV := Lib.hid (show q = true from HQ.out.symm)
      clear HQ hw1 hsz
      go_wp2_with fail
      go_meet
      exact ⟨by rw [HV.out] <;> rfl, rfl⟩
  case rest =>
    obtain ⟨rfl, rfl⟩ := hcut
    cases q
    · have hq := HQ.out
      simp only [Bool.or_eq_false_iff, Bool.not_eq_false'] at hq
      obtain ⟨hw, hq2⟩ := hq
      have hsz := wiB_iff.1 hw
      have HS := Lib.hid (show 1 ≤ d.size ∧ d.size ≤ 7 by omega)
      have HQ2 := Lib.hid (show ¬ (byteAt d 0 = 48 ∧ (1 < d.size ∨ mb = true)) from fun h => by
        rw [show (byteAt d 0 == 48) = true by simpa using h.1, Bool.true_and, Bool.or_eq_false_iff] at hq2
        rcases h.2 with h2 | h2
        · rw [decide_eq_true h2] at hq2; cases hq2.1
        · rw [h2] at hq2; cases hq2.2)
      have hd1 : (1 : Int) ≤ (d.size : Int) := hsz.1
      have hd7 : (d.size : Int) ≤ 7 := hsz.2
      clear hw hq2 hsz HQ HFew HNou
      as_aux_lemma =>
      go_wp2_with fail
      go_loop [6, 32] (fun n i => ∃ k : Nat, k ≤ d.size ∧ i = .int .i64 k ∧ n = .int .i64 (Tide.valL (d.data.toList.take k)) ∧ Hid ((d.data.toList.take k).all Tide.digB = true)) (fun _ i => d.size - (intOf i).toNat)
      case atStart => exact ⟨0, by omega, rfl, rfl, Lib.hid rfl⟩
      case round =>
        obtain ⟨k, hk, rfl, rfl, HA⟩ := hrel
        by_cases hlt : k < d.size
        · have i0 : (0 : Int) ≤ (k : Int) := by omega
          have i1 : (k : Int) < (d.size : Int) := by omega
          obtain ⟨b, hb, hx⟩ := byte_get hlt
          have hv := Tide.valL_bd k (d.data.toList.take k) (by rw [List.length_take]; have := HZ.out; omega) HA.out
          have hv2 : Tide.valL (d.data.toList.take k) < 10000000 := by
            have e : (10 : Int) ^ k ≤ 10 ^ 7 := by exact_mod_cast Nat.pow_le_pow_right (show 0 < 10 by decide) (show k ≤ 7 by omega)
            have : (10 : Int) ^ 7 = 10000000 := by decide
            omega
          have hv0 := hv.1
          have HNx := Lib.hid (fun h1 h2 => dig_snoc hb hx h1 h2 HA.out)
          have HB1 := Lib.hid (fun h => HBad.out k b hb (digB_low hx h))
          have HB2 := Lib.hid (fun h => HBad.out k b hb (digB_high hx h))
          have HLt := Lib.hid hlt
          clear hv hb hx HA
          have e7 := byte_at hlt
          have hxb := byteAt_bd d k
          generalize Tide.valL (d.data.toList.take k) = n at HNx hv0 hv2 ⊢
          generalize byteAt d k = x at HNx HB1 HB2 hxb e7 ⊢
          have x0 : (0 : Int) ≤ (x : Int) := by omega
          by_cases a1 : x < 48
          · have HF := Lib.hid (HB1.out a1)
            have a2 : (x : Int) < 48 := by omega
            clear a1 HNx HB1 HB2
            go_wp2_with fail
            go_ret2
            exact HF.out
          by_cases a2 : 57 < x
          · have HF := Lib.hid (HB2.out a2)
            have a3 : (57 : Int) < (x : Int) := by omega
            have a4 : (48 : Int) ≤ (x : Int) := by omega
            clear a1 a2 HNx HB1 HB2
            go_wp2_with fail
            go_ret2
            exact HF.out
          · have HN := Lib.hid (HNx.out (by omega) (by omega))
            have a3 : (x : Int) ≤ 57 := by omega
            have a4 : (48 : Int) ≤ (x : Int) := by omega
            have q1 : IntKind.u8.wrap ((x : Int) - 48) = (x : Int) - 48 := u8_in _ (by omega) (by omega)
            have q2 : IntKind.i64.wrap ((x : Int) - 48) = (x : Int) - 48 := IntWalk.i64_in _ (by omega)
            have q3 : IntKind.i64.wrap (10 * n) = 10 * n := IntWalk.i64_in _ (by omega)
            have q4 : IntKind.i64.wrap (10 * n + ((x : Int) - 48)) = 10 * n + ((x : Int) - 48) := IntWalk.i64_in _ (by omega)
            clear a1 a2 HNx HB1 HB2
            go_wp2_with fail
            go_round
            case rel => exact ⟨k + 1, by have := HLt.out; omega, by go_num, by rw [HN.out.2], Lib.hid HN.out.1⟩
            case measure => have := HLt.out; simp [intOf]; omega
        · have hke : k = d.size := by omega
          subst hke
          have e : d.data.toList.take d.size = d.data.toList := by rw [HZ.out, List.take_length]
          have h3 := HA.out
          rw [e] at h3 ⊢
          have hv := Tide.valL_bd d.data.toList.length d.data.toList rfl h3
          have hv2 : Tide.valL d.data.toList < 10000000 := by
            have e2 : (10 : Int) ^ d.data.toList.length ≤ 10 ^ 7 := by exact_mod_cast Nat.pow_le_pow_right (show 0 < 10 by decide) (show d.data.toList.length ≤ 7 by have := HZ.out; have := HS.out; omega)
            have : (10 : Int) ^ 7 = 10000000 := by decide
            omega
          have hv0 := hv.1
          have HF := Lib.hid (HGood.out HS.out.1 HS.out.2 HQ2.out h3)
          clear hv h3 e hlt hk HA
          generalize Tide.valL d.data.toList = n at hv0 hv2 HF ⊢
          have q1 : IntKind.i64.wrap (-n) = -n := IntWalk.i64_in _ (by omega)
          cases mb
          · go_wp2_with fail
            go_ret2
            exact HF.out
          · go_wp2_with fail
            go_ret2
            exact HF.out
    · have HF := Lib.hid (show WholePost s w (.returned (.tuple #[.int .i64 0, .bool false])) w by
        have hq := HQ.out
        by_cases hsz : d.size < 1 ∨ 7 < d.size
        · exact HFew.out hsz
        · rw [show wiB (d.size : Int) 1 7 = true from wiB_iff.2 (by omega)] at hq
          simp only [Bool.not_true, Bool.false_or, Bool.and_eq_true, Bool.or_eq_true, decide_eq_true_eq, beq_iff_eq] at hq
          exact HNou.out (by omega) hq.1 hq.2)
      clear HQ HFew HNou
      go_wp2_with fail
      go_ret2
      exact HF.out
set_option maxRecDepth 100000 in
set_option maxHeartbeats 3200000 in
theorem refWhole (s : ByteArray) (hs : s.size ≤ 1000000) (w : World) : Calls Tryd.prog 78 #[.string s, .int .i64 7] w (WholePost s w) := by
  obtain ⟨mb, hmb⟩ : ∃ mb, Tide.minusL s.data.toList = mb := ⟨_, rfl⟩
  obtain ⟨d, hd⟩ : ∃ d : ByteArray, (if mb = true then s.extract 1 s.size else s) = d := ⟨_, rfl⟩
  have hdd : d.data.toList = Tide.digsL s.data.toList := by
    unfold Tide.digsL
    rw [← hd, hmb]
    cases mb
    · rfl
    · show (s.extract 1 s.size).data.toList = s.data.toList.tail
      rw [ByteArray.data_extract, Array.toList_extract, List.extract_eq_take_drop, List.drop_one]
      exact List.take_of_length_le (by rw [List.length_tail, ← Tide.ba_size]; exact Nat.le_refl _)
  have hdl : d.size ≤ s.size := by
    rw [Tide.ba_size, Tide.ba_size, hdd]
    unfold Tide.digsL; split
    · rw [List.length_tail]; omega
    · exact Nat.le_refl _
  have hs2 : (s.size : Int) ≤ 1000000 := by omega
  have HDg := Lib.hid (fun (W : World) => refDigits d 7 (by omega) (by decide) (by decide) W)
  obtain ⟨N, hN⟩ : ∃ N, Tide.numL 7 d.data.toList = N := ⟨_, rfl⟩
  rw [hN] at HDg
  obtain ⟨ok, hok⟩ : ∃ ok, wOk s = ok := ⟨_, rfl⟩
  have HOk := Lib.hid (show ok = (decide (0 ≤ N) && !(decide (1 < d.size) && d.data.toList.head? == some 48) && !(mb && decide (N = 0))) by
    rw [← hok]; unfold wOk Tide.wholeOk; rw [← hdd, hN, hmb, ← Tide.ba_size])
  have hV : wV s = if mb = true then -N else N := by unfold wV Tide.wholeV; rw [hmb, ← hdd, hN]
  have HNone := Lib.hid (fun h => whole_none (s := s) (w := w) (hok.trans h))
  have HSome := Lib.hid (fun h => whole_some (s := s) (w := w) (hok.trans h) hV)
  have hNb := Tide.numL_bd 7 d.data.toList
  rw [hN] at hNb
  have hn0 := hNb.1
  have hn1 : N < 10000000 := by have := hNb.2; have e : (10 : Int) ^ 7 = 10000000 := by decide
                                omega
  have HNp := Lib.hid (fun (h : 0 ≤ N) => (show 0 < d.size from by
    rcases Nat.eq_zero_or_pos d.size with h0 | h0
    · rw [← hN, Tide.numL_size (.inl (by rw [← Tide.ba_size]; omega))] at h; omega
    · exact h0))
  have HD := Lib.hid hd
  have HM := Lib.hid hmb
  clear hs hdd hd hmb hN hok hV hNb hdl
  go_enter Tryd.func78, Tryd.ntmps78
  go_upto_region 1 with fail
  go_cut [6] (fun v wx => v = .bool mb ∧ w = wx)
  case first =>
    by_cases h0 : s.size = 0
    · have HV := Lib.hid (show mb = false by rw [← HM.out]; exact minus_none h0)
      have h1 : (s.size : Int) ≤ 0 := by omega
      clear h0
      go_wp2_with fail
      go_meet
      exact ⟨by rw [HV.out] <;> rfl, rfl⟩
    · have h1 : (0 : Int) < (s.size : Int) := by omega
      have hlt : 0 < s.size := by omega
      have HV := Lib.hid (show mb = (byteAt s 0 == 45) by rw [← HM.out]; exact minus_byte hlt)
      have e7 := byte_at hlt
      generalize byteAt s 0 = x at e7 HV
      by_cases hx : x = 45
      · subst hx
        clear h0
        go_wp2_with fail
        go_meet
        exact ⟨by rw [HV.out] <;> rfl, rfl⟩
      · have hx2 : ((x : Int) == 45) = false := by simp; omega
        have HV2 := Lib.hid (show mb = false by rw [HV.out]; simpa using hx)
        clear h0 hx HV
        go_wp2_with fail
        go_meet
        exact ⟨by rw [HV2.out] <;> rfl, rfl⟩
  case rest =>
    obtain ⟨rfl, rfl⟩ := hcut
    go_upto_if 16 with fail
    go_cut [0] (fun v wx => v = .string d ∧ w = wx)
    case first =>
      cases mb
      · have HE := Lib.hid (show s = d from HD.out)
        go_wp2_with fail
        go_meet
        exact ⟨by rw [HE.out] <;> rfl, rfl⟩
      · have HE := Lib.hid (show s.extract 1 s.size = d from HD.out)
        have h1 : (1 : Int) ≤ (s.size : Int) := by
          rcases Nat.eq_zero_or_pos s.size with h0 | h0
          · have := minus_none h0; rw [HM.out] at this; cases this
          · omega
        go_wp2_with fail
        go_meet
        exact ⟨by rw [← HE.out] <;> rfl, rfl⟩
    case rest =>
      obtain ⟨rfl, rfl⟩ := hcut
      go_wp2_with fail
      refine (HDg.out _).mono ?_
      rintro e w1 ⟨rfl, rfl⟩
      clear HDg HD HM
      go_upto_region 5 with fail
      go_cut [40] (fun v wx => v = .bool (!ok) ∧ w = wx)
      case first =>
        by_cases h0 : N < 0
        · have HV := Lib.hid (show (!ok) = true by rw [HOk.out, decide_eq_false (show ¬ 0 ≤ N by omega)]; rfl)
          go_wp2_with fail
          go_meet
          exact ⟨by rw [HV.out] <;> rfl, rfl⟩
        · have h1 : 0 ≤ N := by omega
          have h0d : decide (N < 0) = false := decide_eq_false (by omega)
          have hp := HNp.out h1
          have i1 : (0 : Int) < (d.size : Int) := by omega
          have e7 := byte_at hp
          have hh := head_byte hp
          by_cases h2 : 1 < d.size
          · have i2 : (1 : Int) < (d.size : Int) := by omega
            by_cases hx : byteAt d 0 = 48
            · have HV := Lib.hid (show (!ok) = true by rw [HOk.out, decide_eq_true h1, decide_eq_true h2, hh.2 hx]; rfl)
              rw [hx] at e7
              clear h0 h2 hh hx
              go_wp2_with fail
              go_meet
              exact ⟨by rw [HV.out] <;> rfl, rfl⟩
            · have HV := Lib.hid (show (!ok) = (mb && decide (N = 0)) by
                rw [HOk.out, decide_eq_true h1, decide_eq_true h2]
                have : (d.data.toList.head? == some 48) = false := by simpa using fun e => hx (hh.1 e)
                rw [this]; simp)
              generalize byteAt d 0 = x at e7 hx
              have hx2 : ((x : Int) == 48) = false := by simp; omega
              clear h0 h2 hh hx
              cases mb
              · have HV2 := Lib.hid (show (!ok) = false by rw [HV.out]; rfl)
                go_wp2_with fail
                go_meet
                exact ⟨by rw [HV2.out] <;> rfl, rfl⟩
              · by_cases hz : N = 0
                · have HV2 := Lib.hid (show (!ok) = true by rw [HV.out, decide_eq_true hz]; rfl)
                  subst hz
                  go_wp2_with fail
                  go_meet
                  exact ⟨by rw [HV2.out] <;> rfl, rfl⟩
                · have HV2 := Lib.hid (show (!ok) = false by rw [HV.out, decide_eq_false hz]; rfl)
                  have hz2 : (N == 0) = false := by simpa using hz
                  clear hz
                  go_wp2_with fail
                  go_meet
                  exact ⟨by rw [HV2.out] <;> rfl, rfl⟩
          · have i2 : (d.size : Int) ≤ 1 := by omega
            have i3 : decide ((1 : Int) < (d.size : Int)) = false := decide_eq_false (by omega)
            have HV := Lib.hid (show (!ok) = (mb && decide (N = 0)) by rw [HOk.out, decide_eq_true h1, decide_eq_false h2]; simp)
            clear h0 h2 hh e7
            cases mb
            · have HV2 := Lib.hid (show (!ok) = false by rw [HV.out]; rfl)
              go_wp2_with fail
              go_meet
              exact ⟨by rw [HV2.out] <;> rfl, rfl⟩
            · by_cases hz : N = 0
              · have HV2 := Lib.hid (show (!ok) = true by rw [HV.out, decide_eq_true hz]; rfl)
                subst hz
                go_wp2_with fail
                go_meet
                exact ⟨by rw [HV2.out] <;> rfl, rfl⟩
              · have HV2 := Lib.hid (show (!ok) = false by rw [HV.out, decide_eq_false hz]; rfl)
                have hz2 : (N == 0) = false := by simpa using hz
                clear hz
                go_wp2_with fail
                go_meet
                exact ⟨by rw [HV2.out] <;> rfl, rfl⟩
      case rest =>
        obtain ⟨rfl, rfl⟩ := hcut
        cases ok
        · have HF := Lib.hid (HNone.out rfl)
          go_wp2_with fail
          go_ret2
          exact HF.out
        · have HF := Lib.hid (HSome.out rfl)
          have q1 : IntKind.i64.wrap (-N) = -N := IntWalk.i64_in _ (by omega)
          cases mb
          · go_wp2_with fail
            go_ret2
            exact HF.out
          · go_wp2_with fail
            go_ret2
            exact HF.out
end Go.Proofs.YthelnkoohbnjpaaDoor
