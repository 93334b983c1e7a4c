/- The walks of CivilSays, CivilBack, CivilRight. -/
import Derived.Test.YtfipfikinkhpmaaCivL
namespace Go.Proofs.Ytfipfikinkhpmaa
open Go.RowKit
set_option linter.unusedVariables false

theorem size_lt_of_below {B : Nat} {w w1 : World} (hb : Below B w w1) (h : B ≤ w.heap.size) : B ≤ w1.heap.size := Nat.le_trans h hb.size

/-- the two calls of Days tell the same -/
theorem days_pair {y m d : Int} : ∃ n e : Int, (∀ w, Calls Try.prog 21 #[.int .i64 y, .int .i64 m, .int .i64 d] w fun en w' => en = .returned (.tuple #[.int .i64 n, .int .i64 e]) ∧ w = w') ∧
    (∀ w, Calls Try.prog 30 #[.int .i64 y, .int .i64 m, .int .i64 d] w fun en w' => en = .returned (.tuple #[.int .i64 n, .int .i64 e]) ∧ Below w.heap.size w w') := by
  by_cases h : okDate y m d
  · exact ⟨_, _, fun w => civDays_yes y m d w h, fun w => refDays_yes y m d w h⟩
  · exact ⟨_, _, fun w => civDays_no y m d w h, fun w => refDays_no y m d w h⟩
theorem of_pair {s h : Int} : ∃ a b c d e f g k : Int, (∀ w, Calls Try.prog 31 #[.int .i64 s, .int .i64 h] w fun en w' => en = .returned (.tuple #[.agg #[.int .i64 a, .int .i64 b, .int .i64 c, .int .i64 d, .int .i64 e, .int .i64 f, .int .i64 g], .int .i64 k]) ∧ Below w.heap.size w w') ∧
    (∀ w, Calls Try.prog 32 #[.int .i64 s, .int .i64 h] w fun en w' => en = .returned (.tuple #[.agg #[.int .i64 a, .int .i64 b, .int .i64 c, .int .i64 d, .int .i64 e, .int .i64 f, .int .i64 g], .int .i64 k]) ∧ Below w.heap.size w w') := by
  by_cases hh : okTime s h
  · exact ⟨_, _, _, _, _, _, _, _, fun w => civOf_yes s h w hh, fun w => refOf_yes s h w hh⟩
  · exact ⟨_, _, _, _, _, _, _, _, fun w => civOf_no s h w hh, fun w => refOf_no s h w hh⟩

set_option maxHeartbeats 1600000 in
theorem civilSays_walk (y : Int) (wy : (Lit.int .i64 y).wf = true) (m : Int) (wm : (Lit.int .i64 m).wf = true) (d : Int) (wd : (Lit.int .i64 d).wf = true) (s : Int) (ws : (Lit.int .i64 s).wf = true) (h : Int) (wh : (Lit.int .i64 h).wf = true) (w : World) :
    Calls Try.prog 11 #[.int .i64 y, .int .i64 m, .int .i64 d, .int .i64 s, .int .i64 h] w fun e w' => e = .returned (.bool true) ∧ Below w.heap.size w w' := by
  obtain ⟨n, e, hd, hd'⟩ := @days_pair y m d
  obtain ⟨c0, c1, c2, c3, c4, c5, c6, k, ho, ho'⟩ := @of_pair s h
  have HD := Lib.hid hd; have HD' := Lib.hid hd'; have HO := Lib.hid ho; have HO' := Lib.hid ho'
  clear hd hd' ho ho' wy wm wd ws wh
  go_enter Try.func11, Try.ntmps11
  go_wp2_with fail
  refine (HD.out _).mono ?_
  rintro en w' ⟨rfl, rfl⟩
  go_wp2_with fail
  refine (HD'.out _).mono ?_
  rintro en w1 ⟨rfl, hb1⟩
  go_wp2_with fail
  refine (HO.out _).mono ?_
  rintro en w2 ⟨rfl, hb2⟩
  have hbw2 : Below w.heap.size w w2 := hb1.trans (hb2.mono hb1.size)
  clear hb1 hb2
  go_wp2_with fail
  refine (HO'.out _).mono ?_
  rintro en w3 ⟨rfl, hb3⟩
  obtain ⟨hA, hz, hbw⟩ := one_at hb3
  have hfin : Below w.heap.size w w3 := hbw2.trans (hbw.mono hbw2.size)
  clear hb3 hbw hbw2
  obtain ⟨i0, i1, i2, i3, i4, i5, i6, j0, j1, j2, j3, j4, j5, j6⟩ := At7 hA
  clear hA
  go_wp2_with fail
  go_ret
  exact ⟨rfl, by refine hfin.alloc ?_ _; exact hfin.size⟩

/-- a date and time that is told is one, and is found again -/
theorem of_ok {s h : Int} (hb : okTime s h) : okCivil (Tide.yrOf ((s + 60 * h) / 86400)) (Tide.moOf ((s + 60 * h) / 86400)) (Tide.dyOf ((s + 60 * h) / 86400)) ((s + 60 * h) % 86400 / 3600) ((s + 60 * h) % 86400 / 60 % 60) ((s + 60 * h) % 86400 % 60) h ∧
    secOf (Tide.yrOf ((s + 60 * h) / 86400)) (Tide.moOf ((s + 60 * h) / 86400)) (Tide.dyOf ((s + 60 * h) / 86400)) ((s + 60 * h) % 86400 / 3600) ((s + 60 * h) % 86400 / 60 % 60) ((s + 60 * h) % 86400 % 60) h = s := by
  obtain ⟨b0, b1, b2, b3⟩ := hb
  have hs : secOf (Tide.yrOf ((s + 60 * h) / 86400)) (Tide.moOf ((s + 60 * h) / 86400)) (Tide.dyOf ((s + 60 * h) / 86400)) ((s + 60 * h) % 86400 / 3600) ((s + 60 * h) % 86400 / 60 % 60) ((s + 60 * h) % 86400 % 60) h = s := by
    unfold secOf; rw [Tide.date_dayno]; omega
  have y0 := Tide.yrOf_lo (n := (s + 60 * h) / 86400) (y := -4000) (by rw [Tide.years_1970]; unfold Tide.years; omega)
  have y1 := Tide.yrOf_hi (n := (s + 60 * h) / 86400) (y := 8000) (by rw [Tide.years_1970]; unfold Tide.years; omega)
  refine ⟨⟨⟨y0, y1, Tide.date_valid _⟩, ⟨b2, b3, by omega, by omega, by omega, by omega, by omega, by omega⟩, ?_, ?_⟩, hs⟩
  · rw [hs]; exact b0
  · rw [hs]; exact b1

theorem civAgg_2000 : civAgg 951782400 0 = .agg #[.int .i64 2000, .int .i64 2, .int .i64 29, .int .i64 0, .int .i64 0, .int .i64 0, .int .i64 2] := by
  unfold civAgg
  have h := Tide.date_uniq (n := (951782400 + 60 * 0) / 86400) (y := 2000) (m := 2) (d := 29) (by unfold Tide.valid; decide) (by decide)
  rw [← h.1, ← h.2.1, ← h.2.2]
  rfl

/-- Of at a right time: seven numbers -/
def OfTells (s h y mo d hh mi ss wk : Int) : Prop := ∀ w, Calls Try.prog 31 #[.int .i64 s, .int .i64 h] w fun en w' => en = .returned (.tuple #[.agg #[.int .i64 y, .int .i64 mo, .int .i64 d, .int .i64 hh, .int .i64 mi, .int .i64 ss, .int .i64 wk], .int .i64 0]) ∧ Below w.heap.size w w'
def OfNot (s h : Int) : Prop := ∀ w, Calls Try.prog 31 #[.int .i64 s, .int .i64 h] w fun en w' => en = .returned (.tuple #[.agg #[.int .i64 0, .int .i64 0, .int .i64 0, .int .i64 0, .int .i64 0, .int .i64 0, .int .i64 0], .int .i64 1]) ∧ Below w.heap.size w w'
theorem ofTells {s h : Int} (hb : okTime s h) : ∃ y mo d hh mi ss wk : Int, OfTells s h y mo d hh mi ss wk ∧ okCivil y mo d hh mi ss h ∧ secOf y mo d hh mi ss h = s ∧ 0 ≤ wk ∧ wk < 7 ∧
    wk = ((s + 60 * h) / 86400 + 4) % 7 ∧ hh = (s + 60 * h) % 86400 / 3600 ∧ mi = (s + 60 * h) % 86400 / 60 % 60 ∧ ss = (s + 60 * h) % 86400 % 60 :=
  ⟨_, _, _, _, _, _, _, fun w => civOf_yes s h w hb, (of_ok hb).1, (of_ok hb).2, by omega, by omega, rfl, rfl, rfl, rfl⟩
theorem ofNext {s h y mo d hh mi ss wk : Int} (hw : wk = ((s + 60 * h) / 86400 + 4) % 7) (hh' : hh = (s + 60 * h) % 86400 / 3600) (hm : mi = (s + 60 * h) % 86400 / 60 % 60) (hs : ss = (s + 60 * h) % 86400 % 60) (hb : okTime (s + 86400) h) :
    ∃ y' mo' d', OfTells (s + 86400) h y' mo' d' hh mi ss ((wk + 1) % 7) := by
  obtain ⟨y', mo', d', h2, m2, s2, w2, ht, _, _, _, _, e1, e2, e3, e4⟩ := ofTells hb
  refine ⟨y', mo', d', ?_⟩
  rw [show hh = h2 by omega, show mi = m2 by omega, show ss = s2 by omega, show (wk + 1) % 7 = w2 by omega]
  exact ht
theorem ofNo {s h : Int} (hb : ¬ okTime s h) : OfNot s h := fun w => civOf_no s h w hb
theorem of2000 : OfTells 951782400 0 2000 2 29 0 0 0 2 := fun w => by
  have := civOf_yes 951782400 0 w (by decide)
  rw [civAgg_2000] at this
  exact this
def SecTells (y m d h mi s wk sh n k : Int) : Prop := ∀ w, Calls Try.prog 28 #[.agg #[.int .i64 y, .int .i64 m, .int .i64 d, .int .i64 h, .int .i64 mi, .int .i64 s, .int .i64 wk], .int .i64 sh] w fun e w' =>
    e = .returned (.tuple #[.int .i64 n, .int .i64 k]) ∧ Below w.heap.size w w'

/-- what a box holds, behind a call that made blocks alone -/
theorem box_at {w w1 w2 : World} {T : TypeId} {a : Array Value} (hb : Below (w.alloc (.cells a T)).heap.size (w.alloc (.cells a T)) w1) (hw : Below w2.heap.size w2 w) :
    Tide.At w1 w.heap.size T a ∧ w.heap.size < w1.heap.size ∧ Below w2.heap.size w2 w1 := by
  obtain ⟨h1, h2, h3⟩ := one_at hb
  exact ⟨h1, h2, hw.trans (h3.mono hw.size)⟩
theorem step_below {w w1 w2 : World} (hw : Below w2.heap.size w2 w) (hb : Below w.heap.size w w1) : Below w2.heap.size w2 w1 := hw.trans (hb.mono hw.size)

set_option maxHeartbeats 3200000 in
theorem civilBack_walk (s : Int) (ws : (Lit.int .i64 s).wf = true) (h : Int) (wh : (Lit.int .i64 h).wf = true) (w : World) :
    Calls Try.prog 12 #[.int .i64 s, .int .i64 h] w fun e w' => e = .returned (.bool true) ∧ Below w.heap.size w w' := by
  clear ws wh
  have H2 := Lib.hid of2000
  by_cases hb : okTime s h
  · have c0 : -100000000000 ≤ s := hb.1
    have c1 : s ≤ 100000000000 := hb.2.1
    obtain ⟨y, mo, d, hh, mi, ss, wk, ht, ho, hs, k0, k1, e1, e2, e3, e4⟩ := ofTells hb
    have hsec : SecTells y mo d hh mi ss wk h s 0 := fun w => by
      have := civSeconds_yes y mo d hh mi ss wk h w ho
      rw [hs] at this
      exact this
    by_cases hn : okTime (s + 86400) h
    · obtain ⟨y', mo', d', hx⟩ := ofNext (y := 0) (mo := 0) (d := 0) e1 e2 e3 e4 hn
      have HT := Lib.hid ht; have HS := Lib.hid hsec; have HX := Lib.hid hx
      clear hb ht ho hs e1 e2 e3 e4 hsec hn hx
      go_enter Try.func12, Try.ntmps12
      go_wp2_with fail
      refine (H2.out _).mono ?_
      rintro en w1 ⟨rfl, hb1⟩
      go_wp2_with fail
      refine (HT.out _).mono ?_
      rintro en w2 ⟨rfl, hb2⟩
      obtain ⟨_, _, hbw2⟩ := box_at hb2 hb1
      clear hb1 hb2
      go_wp2_with fail
      refine (HS.out _).mono ?_
      rintro en w3 ⟨rfl, hb3⟩
      obtain ⟨hA, hz, hbw3⟩ := box_at hb3 hbw2
      clear hbw2 hb3
      have HA := Lib.hid hA
      clear hA
      go_wp2_with fail
      refine (HX.out _).mono ?_
      rintro en w4 ⟨rfl, hb4⟩
      have hbw4 := step_below hbw3 hb4
      have hA4 := HA.out.below hb4 hz
      have hz4 := Nat.lt_of_lt_of_le hz hb4.size
      clear hbw3 hb4 HA hz
      obtain ⟨i0, i1, i2, i3, i4, i5, i6, j0, j1, j2, j3, j4, j5, j6⟩ := At7 hA4
      clear hA4 i0 i1 i2 j0 j1 j2 j3 j4 j5 j6
      go_wp2_with fail
      go_ret
      exact ⟨rfl, hbw4.alloc hbw4.size _⟩
    · have hx := ofNo hn
      have HT := Lib.hid ht; have HS := Lib.hid hsec; have HX := Lib.hid hx
      clear hb ht ho hs e1 e2 e3 e4 hsec hn hx
      go_enter Try.func12, Try.ntmps12
      go_wp2_with fail
      refine (H2.out _).mono ?_
      rintro en w1 ⟨rfl, hb1⟩
      go_wp2_with fail
      refine (HT.out _).mono ?_
      rintro en w2 ⟨rfl, hb2⟩
      obtain ⟨_, _, hbw2⟩ := box_at hb2 hb1
      clear hb1 hb2
      go_wp2_with fail
      refine (HS.out _).mono ?_
      rintro en w3 ⟨rfl, hb3⟩
      obtain ⟨hA, hz, hbw3⟩ := box_at hb3 hbw2
      clear hbw2 hb3 hA
      go_wp2_with fail
      refine (HX.out _).mono ?_
      rintro en w4 ⟨rfl, hb4⟩
      have hbw4 := step_below hbw3 hb4
      clear hbw3 hb4 hz
      go_wp2_with fail
      go_ret
      exact ⟨rfl, hbw4.alloc hbw4.size _⟩
  · have hx := ofNo hb
    have HX := Lib.hid hx
    clear hb hx
    go_enter Try.func12, Try.ntmps12
    go_wp2_with fail
    refine (H2.out _).mono ?_
    rintro en w1 ⟨rfl, hb1⟩
    go_wp2_with fail
    refine (HX.out _).mono ?_
    rintro en w2 ⟨rfl, hb2⟩
    obtain ⟨_, _, hbw2⟩ := box_at hb2 hb1
    clear hb1 hb2
    go_wp2_with fail
    go_ret
    exact ⟨rfl, hbw2.alloc hbw2.size _⟩

theorem right_tells {y m d hh mi ss sh : Int} (ho : okCivil y m d hh mi ss sh) : ∃ wk : Int, OfTells (secOf y m d hh mi ss sh) sh y m d hh mi ss wk ∧ 0 ≤ wk ∧ wk < 7 := by
  obtain ⟨hd, ⟨k1, k2, k3, k4, k5, k6, k7, k8⟩, hs, hs'⟩ := ho
  obtain ⟨y', mo', d', h2, m2, s2, w2, ht, _, _, a0, a1, _, e2, e3, e4⟩ := ofTells (s := secOf y m d hh mi ss sh) (h := sh) ⟨hs, hs', k1, k2⟩
  have hn : (secOf y m d hh mi ss sh + 60 * sh) / 86400 = Tide.dayno y m d := by unfold secOf; omega
  have hr : (secOf y m d hh mi ss sh + 60 * sh) % 86400 = hh * 3600 + mi * 60 + ss := by unfold secOf; omega
  obtain ⟨u1, u2, u3⟩ := Tide.date_uniq (n := Tide.dayno y m d) hd.2.2 rfl
  have hof := civOf_yes (secOf y m d hh mi ss sh) sh
  refine ⟨((secOf y m d hh mi ss sh + 60 * sh) / 86400 + 4) % 7, ?_, by omega, by omega⟩
  intro w
  have := civOf_yes (secOf y m d hh mi ss sh) sh w ⟨hs, hs', k1, k2⟩
  unfold civAgg at this
  rw [hn, ← u1, ← u2, ← u3, hr, show (hh * 3600 + mi * 60 + ss) / 3600 = hh by omega, show (hh * 3600 + mi * 60 + ss) / 60 % 60 = mi by omega, show (hh * 3600 + mi * 60 + ss) % 60 = ss by omega] at this
  rw [hn]
  exact this

set_option maxHeartbeats 3200000 in
theorem civilRight_walk (y m d h mi s wk : Int) (sh : Int) (wsh : (Lit.int .i64 sh).wf = true) (w : World) :
    Calls Try.prog 13 #[.agg #[.int .i64 y, .int .i64 m, .int .i64 d, .int .i64 h, .int .i64 mi, .int .i64 s, .int .i64 wk], .int .i64 sh] w fun e w' => e = .returned (.bool true) ∧ Below w.heap.size w w' := by
  have h7 : SecTells 1970 1 2 0 0 0 0 60 82800 0 := fun w => by
    have := civSeconds_yes 1970 1 2 0 0 0 0 60 w (by decide)
    exact this
  have H7 := Lib.hid h7
  clear h7 wsh
  by_cases hb : okCivil y m d h mi s sh
  · obtain ⟨wd, ht, d0, d1⟩ := right_tells hb
    have hs : SecTells y m d h mi s wk sh (secOf y m d h mi s sh) 0 := fun w => civSeconds_yes y m d h mi s wk sh w hb
    have HT := Lib.hid ht; have HS := Lib.hid hs
    clear hb ht hs
    go_enter Try.func13, Try.ntmps13
    go_wp2_with fail
    refine (H7.out _).mono ?_
    rintro en w1 ⟨rfl, hb1⟩
    obtain ⟨hA, hz, hbw⟩ := one_at hb1
    clear hb1
    have HA := Lib.hid hA
    obtain ⟨i0, i1, i2, i3, i4, i5, i6, j0, j1, j2, j3, j4, j5, j6⟩ := At7 hA
    clear hA
    go_wp2_with fail
    refine (HS.out _).mono ?_
    rintro en w2 ⟨rfl, hb2⟩
    have hA2 := HA.out.below hb2 hz
    have hbw2 := step_below hbw hb2
    have hz2 := Nat.lt_of_lt_of_le hz hb2.size
    clear hb2 hbw HA hz i0 i1 i2 i3 i4 i5 i6 j0 j1 j2 j3 j4 j5 j6
    have HA := Lib.hid hA2
    clear hA2
    go_wp2_with fail
    refine (HT.out _).mono ?_
    rintro en w3 ⟨rfl, hb3⟩
    have hA3 := HA.out.below hb3 hz2
    have hbw3 := step_below hbw2 hb3
    have hz3 := Nat.lt_of_lt_of_le hz2 hb3.size
    clear hb3 hbw2 HA hz2
    obtain ⟨i0, i1, i2, i3, i4, i5, i6, j0, j1, j2, j3, j4, j5, j6⟩ := At7 hA3
    clear hA3
    go_wp2_with fail
    go_ret
    exact ⟨rfl, (hbw3.setCell (Nat.le_refl _) _).alloc (by rw [World.size_setCell]; exact hbw3.size) _⟩
  · have hs : SecTells y m d h mi s wk sh 0 1 := fun w => civSeconds_no y m d h mi s wk sh w hb
    have HS := Lib.hid hs
    clear hb hs
    go_enter Try.func13, Try.ntmps13
    go_wp2_with fail
    refine (H7.out _).mono ?_
    rintro en w1 ⟨rfl, hb1⟩
    obtain ⟨hA, hz, hbw⟩ := one_at hb1
    clear hb1
    obtain ⟨i0, i1, i2, i3, i4, i5, i6, j0, j1, j2, j3, j4, j5, j6⟩ := At7 hA
    clear hA
    go_wp2_with fail
    refine (HS.out _).mono ?_
    rintro en w2 ⟨rfl, hb2⟩
    have hbw2 := step_below hbw hb2
    go_wp2_with fail
    go_ret
    exact ⟨rfl, hbw2⟩
end Go.Proofs.Ytfipfikinkhpmaa
