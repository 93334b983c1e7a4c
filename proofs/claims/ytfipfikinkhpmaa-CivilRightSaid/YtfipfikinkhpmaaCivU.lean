/- The contract of the reference's Seconds. -/
import Derived.Test.YtfipfikinkhpmaaCivT
namespace Go.Proofs.Ytfipfikinkhpmaa
open Go.RowKit
set_option linter.unusedVariables false

theorem one_at {w w1 : World} {T : TypeId} {a : Array Value} (hb : Below (w.alloc (.cells a T)).heap.size (w.alloc (.cells a T)) w1) :
    Tide.At w1 w.heap.size T a ∧ w.heap.size < w1.heap.size ∧ Below w.heap.size w w1 :=
  ⟨(Tide.At.made w T _).below hb (by simp), by have := hb.size; simp at this; omega, ((Below.refl _ _).alloc (Nat.le_refl _) _).trans (hb.mono (by simp))⟩

set_option maxHeartbeats 1600000 in
theorem refSeconds_yes (y m d h mi s wk sh : Int) (w : World) (hb : okCivil y m d h mi s sh) : Calls Try.prog 29 #[.agg #[.int .i64 y, .int .i64 m, .int .i64 d, .int .i64 h, .int .i64 mi, .int .i64 s, .int .i64 wk], .int .i64 sh] w fun e w' =>
    e = .returned (.tuple #[.int .i64 (secOf y m d h mi s sh), .int .i64 0]) ∧ Below w.heap.size w w' := by
  obtain ⟨hd, ⟨k1, k2, k3, k4, k5, k6, k7, k8⟩, hs, hs'⟩ := hb
  obtain ⟨n0, n1⟩ := dayno_bd hd
  have he : Hid (((Tide.dayno y m d * 24 + h) * 60 + mi - sh) * 60 + s = secOf y m d h mi s sh) := by show _ = _; unfold secOf; omega
  unfold secOf at hs hs'
  have q0 : -100000000000 ≤ ((Tide.dayno y m d * 24 + h) * 60 + mi - sh) * 60 + s := by omega
  have q1 : ((Tide.dayno y m d * 24 + h) * 60 + mi - sh) * 60 + s ≤ 100000000000 := by omega
  go_enter Try.func29, Try.ntmps29
  go_wp2_with fail
  refine (refDays_yes _ _ _ _ hd).mono ?_
  rintro e w1 ⟨rfl, hb1⟩
  obtain ⟨hA, hz, hbw⟩ := one_at hb1
  clear hb1
  obtain ⟨i0, i1, i2, i3, i4, i5, i6, j0, j1, j2, j3, j4, j5, j6⟩ := At7 hA
  clear hA i0 i1 i2 i6 j0 j1 j2 j3 j4 j5 j6
  go_wp2_with fail
  refine (refIn_yes _ _ _ _ k1 k2).mono ?_
  rintro e w' ⟨rfl, rfl⟩
  go_wp2_with fail
  refine (refIn_yes _ _ _ _ k3 k4).mono ?_
  rintro e w' ⟨rfl, rfl⟩
  go_wp2_with fail
  refine (refIn_yes _ _ _ _ k5 k6).mono ?_
  rintro e w' ⟨rfl, rfl⟩
  go_wp2_with fail
  refine (refIn_yes _ _ _ _ k7 k8).mono ?_
  rintro e w' ⟨rfl, rfl⟩
  go_wp2_with fail
  refine (refIn_yes _ _ _ _ q0 q1).mono ?_
  rintro e w' ⟨rfl, rfl⟩
  go_wp2_with fail
  go_ret2
  exact ⟨ret_int2 he.out rfl, hbw⟩

set_option maxHeartbeats 3200000 in
theorem refSeconds_no (y m d h mi s wk sh : Int) (w : World) (hb : ¬ okCivil y m d h mi s sh) : Calls Try.prog 29 #[.agg #[.int .i64 y, .int .i64 m, .int .i64 d, .int .i64 h, .int .i64 mi, .int .i64 s, .int .i64 wk], .int .i64 sh] w fun e w' =>
    e = .returned (.tuple #[.int .i64 0, .int .i64 1]) ∧ Below w.heap.size w w' := by
  by_cases hd : okDate y m d
  · obtain ⟨n0, n1⟩ := dayno_bd hd
    by_cases hk : okClock h mi s sh
    · have hs : secOf y m d h mi s sh < -100000000000 ∨ 100000000000 < secOf y m d h mi s sh := by
        by_cases hh : -100000000000 ≤ secOf y m d h mi s sh ∧ secOf y m d h mi s sh ≤ 100000000000
        · exact absurd ⟨hd, hk, hh.1, hh.2⟩ hb
        · omega
      have hs' : ((Tide.dayno y m d * 24 + h) * 60 + mi - sh) * 60 + s < -100000000000 ∨ 100000000000 < ((Tide.dayno y m d * 24 + h) * 60 + mi - sh) * 60 + s := by
        unfold secOf at hs; omega
      have HS := Lib.hid hs'
      clear hs hs' hb
      obtain ⟨k1, k2, k3, k4, k5, k6, k7, k8⟩ := hk
      go_enter Try.func29, Try.ntmps29
      go_wp2_with fail
      refine (refDays_yes _ _ _ _ hd).mono ?_
      rintro e w1 ⟨rfl, hb1⟩
      obtain ⟨hA, hz, hbw⟩ := one_at hb1
      clear hb1
      obtain ⟨i0, i1, i2, i3, i4, i5, i6, j0, j1, j2, j3, j4, j5, j6⟩ := At7 hA
      clear hA i0 i1 i2 i6 j0 j1 j2 j3 j4 j5 j6
      go_wp2_with fail
      refine (refIn_yes _ _ _ _ k1 k2).mono ?_
      rintro e w' ⟨rfl, rfl⟩
      go_wp2_with fail
      refine (refIn_yes _ _ _ _ k3 k4).mono ?_
      rintro e w' ⟨rfl, rfl⟩
      go_wp2_with fail
      refine (refIn_yes _ _ _ _ k5 k6).mono ?_
      rintro e w' ⟨rfl, rfl⟩
      go_wp2_with fail
      refine (refIn_yes _ _ _ _ k7 k8).mono ?_
      rintro e w' ⟨rfl, rfl⟩
      go_wp2_with fail
      refine (refIn_no _ _ _ _ HS.out).mono ?_
      rintro e w' ⟨rfl, rfl⟩
      go_wp2_with fail
      go_ret2
      exact ⟨rfl, hbw⟩
    · clear hb
      by_cases k1 : -900 ≤ sh ∧ sh ≤ 900
      · by_cases k2 : 0 ≤ h ∧ h ≤ 23
        · by_cases k3 : 0 ≤ mi ∧ mi ≤ 59
          · have k4 : s < 0 ∨ 59 < s := by unfold okClock at hk; omega
            clear hk
            go_enter Try.func29, Try.ntmps29
            go_wp2_with fail
            refine (refDays_yes _ _ _ _ hd).mono ?_
            rintro e w1 ⟨rfl, hb1⟩
            obtain ⟨hA, hz, hbw⟩ := one_at hb1
            clear hb1
            obtain ⟨i0, i1, i2, i3, i4, i5, i6, j0, j1, j2, j3, j4, j5, j6⟩ := At7 hA
            clear hA i0 i1 i2 i6 j0 j1 j2 j3 j4 j5 j6
            go_wp2_with fail
            refine (refIn_yes _ _ _ _ k1.1 k1.2).mono ?_
            rintro e w' ⟨rfl, rfl⟩
            go_wp2_with fail
            refine (refIn_yes _ _ _ _ k2.1 k2.2).mono ?_
            rintro e w' ⟨rfl, rfl⟩
            go_wp2_with fail
            refine (refIn_yes _ _ _ _ k3.1 k3.2).mono ?_
            rintro e w' ⟨rfl, rfl⟩
            go_wp2_with fail
            refine (refIn_no _ _ _ _ k4).mono ?_
            rintro e w' ⟨rfl, rfl⟩
            go_wp2_with fail
            go_ret2
            exact ⟨rfl, hbw⟩
          · clear hk
            go_enter Try.func29, Try.ntmps29
            go_wp2_with fail
            refine (refDays_yes _ _ _ _ hd).mono ?_
            rintro e w1 ⟨rfl, hb1⟩
            obtain ⟨hA, hz, hbw⟩ := one_at hb1
            clear hb1
            obtain ⟨i0, i1, i2, i3, i4, i5, i6, j0, j1, j2, j3, j4, j5, j6⟩ := At7 hA
            clear hA i0 i1 i2 i6 j0 j1 j2 j3 j4 j5 j6
            go_wp2_with fail
            refine (refIn_yes _ _ _ _ k1.1 k1.2).mono ?_
            rintro e w' ⟨rfl, rfl⟩
            go_wp2_with fail
            refine (refIn_yes _ _ _ _ k2.1 k2.2).mono ?_
            rintro e w' ⟨rfl, rfl⟩
            go_wp2_with fail
            refine (refIn_no _ _ _ _ (by omega)).mono ?_
            rintro e w' ⟨rfl, rfl⟩
            go_wp2_with fail
            go_ret2
            exact ⟨rfl, hbw⟩
        · clear hk
          go_enter Try.func29, Try.ntmps29
          go_wp2_with fail
          refine (refDays_yes _ _ _ _ hd).mono ?_
          rintro e w1 ⟨rfl, hb1⟩
          obtain ⟨hA, hz, hbw⟩ := one_at hb1
          clear hb1
          obtain ⟨i0, i1, i2, i3, i4, i5, i6, j0, j1, j2, j3, j4, j5, j6⟩ := At7 hA
          clear hA i0 i1 i2 i6 j0 j1 j2 j3 j4 j5 j6
          go_wp2_with fail
          refine (refIn_yes _ _ _ _ k1.1 k1.2).mono ?_
          rintro e w' ⟨rfl, rfl⟩
          go_wp2_with fail
          refine (refIn_no _ _ _ _ (by omega)).mono ?_
          rintro e w' ⟨rfl, rfl⟩
          go_wp2_with fail
          go_ret2
          exact ⟨rfl, hbw⟩
      · clear hk
        go_enter Try.func29, Try.ntmps29
        go_wp2_with fail
        refine (refDays_yes _ _ _ _ hd).mono ?_
        rintro e w1 ⟨rfl, hb1⟩
        obtain ⟨hA, hz, hbw⟩ := one_at hb1
        clear hb1
        obtain ⟨i0, i1, i2, i3, i4, i5, i6, j0, j1, j2, j3, j4, j5, j6⟩ := At7 hA
        clear hA i0 i1 i2 i6 j0 j1 j2 j3 j4 j5 j6
        go_wp2_with fail
        refine (refIn_no _ _ _ _ (by omega)).mono ?_
        rintro e w' ⟨rfl, rfl⟩
        go_wp2_with fail
        go_ret2
        exact ⟨rfl, hbw⟩
  · clear hb
    go_enter Try.func29, Try.ntmps29
    go_wp2_with fail
    refine (refDays_no _ _ _ _ hd).mono ?_
    rintro e w1 ⟨rfl, hb1⟩
    obtain ⟨hA, hz, hbw⟩ := one_at hb1
    clear hb1 hA
    go_wp2_with fail
    go_ret2
    exact ⟨rfl, hbw⟩
end Go.Proofs.Ytfipfikinkhpmaa
