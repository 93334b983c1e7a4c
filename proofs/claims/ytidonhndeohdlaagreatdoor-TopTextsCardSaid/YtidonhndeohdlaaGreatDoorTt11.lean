/- Of the texts CronD, CronW, CronX, CronY, SpanC, PlnM, PlnC, StbG: what this claim reaches. -/
import Derived.Deep.DeepCutAuto
import Derived.Deep.CutBlock
import Derived.Laws.StructEq
import Derived.Test.YtidonhndeohdlaaGreatDoorTtCronK
import Derived.Test.YtidonhndeohdlaaGreatDoorTt01
import Derived.Test.YtidonhndeohdlaaGreatDoorTtStbF
import Derived.Test.YtidonhndeohdlaaGreatDoorTt03
set_option linter.unusedVariables false
set_option linter.unusedSimpArgs false
namespace Go.Proofs.YtidonhndeohdlaaGreatDoor
open Go.RowKit
def civ (y mo d h mi s wk : Int) : Value := .agg #[.int .i64 y, .int .i64 mo, .int .i64 d, .int .i64 h, .int .i64 mi, .int .i64 s, .int .i64 wk]
def Cr.day (c : Cr) (mo d wk : Int) : Bool := hasB c.mo mo && (if c.ad || c.aw then hasB c.d d && hasB c.wk wk else hasB c.d d || hasB c.wk wk)
def Cr.fit (c : Cr) (mo d h mi wk : Int) : Bool := c.day mo d wk && hasB c.h h && hasB c.mi mi
def Word (s : Nat) : Prop := s < 18446744073709551616
theorem cronHas' (s : Nat) (n : Int) (w : World) (hs : Word s) : Calls Tryz.prog 177 #[.int .u64 (s : Int), .int .i64 n] w fun e w' => e = .returned (.bool (hasB s n)) ∧ w' = w :=
  (cronHas s n w hs).mono fun _ _ ⟨a, b⟩ => ⟨a, b.symm⟩
set_option maxRecDepth 100000 in
set_option maxHeartbeats 3200000 in
theorem cronDay (c : Cr) (hf : c.fits) (y mo d h mi s wk : Int) (w : World) : Calls Tryz.prog 173 #[.agg c.cells, civ y mo d h mi s wk] w fun e w' => e = .returned (.bool (c.day mo d wk)) ∧ Below w.heap.size w w' := by
  obtain ⟨ci, ch, cd, cm, cw, ad, aw⟩ := c
  obtain ⟨f0, f1, f2, f3, f4⟩ := hf
  have F2 : Word cd := f2; have F3 : Word cm := f3; have F4 : Word cw := f4
  clear f0 f1 f2 f3 f4
  unfold Cr.cells civ
  go_enter Tryz.func173, Tryz.ntmps173
  go_wp2_with fail
  go_quiet ((go_at_call 177; exact Calls.quiet_of_same (cronHas' _ _ _ (by assumption))))
  cases ad <;> cases aw
  all_goals
    go_wp2_with fail
    refine (cronHas cm mo _ F3).mono ?_
    rintro e w' ⟨rfl, rfl⟩
    cases hm : hasB cm mo
    · go_wp2_with fail
      go_ret
      exact ⟨by simp [Cr.day, hm], below_drewN (((Below.refl _ _).alloc (Nat.le_refl _) _).alloc (by simp) _) _⟩
    · cases ha : hasB cd d <;> cases hb : hasB cw wk
      all_goals
        go_wp2_with fail
        go_ret
        exact ⟨by simp [Cr.day, hm, ha, hb], below_drewN (((Below.refl _ _).alloc (Nat.le_refl _) _).alloc (by simp) _) _⟩
def Cr.match (c : Cr) (mo d h mi wk : Int) : Bool := c.ok && c.fit mo d h mi wk
end Go.Proofs.YtidonhndeohdlaaGreatDoor
namespace Tide
def firstUnder (p : Nat → Bool) : Nat → Option Nat
  | 0 => none
  | k + 1 => match firstUnder p k with | some i => some i | none => if p k then some k else none
theorem under_none {p : Nat → Bool} : ∀ {n : Nat}, firstUnder p n = none → ∀ k, k < n → p k = false
  | 0, _, k, hk => by omega
  | n + 1, h, k, hk => by
    unfold firstUnder at h
    cases hn : firstUnder p n with
    | some i => rw [hn] at h; cases h
    | none =>
      rw [hn] at h
      simp only at h
      rcases Nat.lt_succ_iff_lt_or_eq.1 hk with c | c
      · exact under_none hn k c
      · subst c
        cases hp : p k
        · rfl
        · rw [hp] at h; cases h
theorem under_some {p : Nat → Bool} : ∀ {n i : Nat}, firstUnder p n = some i → i < n ∧ p i = true ∧ ∀ k, k < i → p k = false
  | 0, i, h => by cases h
  | n + 1, i, h => by
    unfold firstUnder at h
    cases hn : firstUnder p n with
    | some i' =>
      rw [hn] at h; cases h
      obtain ⟨h1, h2, h3⟩ := under_some hn
      exact ⟨by omega, h2, h3⟩
    | none =>
      rw [hn] at h
      simp only at h
      cases hp : p n
      · rw [hp] at h; cases h
      · rw [hp] at h; cases h
        exact ⟨by omega, hp, fun k hk => under_none hn k hk⟩
theorem under_is {p : Nat → Bool} {n i : Nat} (hi : i < n) (hp : p i = true) (h : ∀ k, k < i → p k = false) : firstUnder p n = some i := by
  cases hn : firstUnder p n with
  | none => rw [under_none hn i hi] at hp; cases hp
  | some j =>
    obtain ⟨_, h2, h3⟩ := under_some hn
    rcases Nat.lt_trichotomy i j with c | c | c
    · rw [h3 i c] at hp; cases hp
    · rw [c]
    · rw [h j c] at h2; cases h2
theorem under_all {p : Nat → Bool} {n : Nat} (h : ∀ k, k < n → p k = false) : firstUnder p n = none := by
  cases hn : firstUnder p n with
  | none => rfl
  | some j =>
    obtain ⟨h1, h2, _⟩ := under_some hn
    rw [h j h1] at h2; cases h2
def minOf (side : Int) (k : Nat) : Int := if side < 0 then 1439 - k else k
end Tide
namespace Go.Proofs.YtidonhndeohdlaaGreatDoor
open Go.RowKit
def Cr.minB (c : Cr) (at0 sec side : Int) (k : Nat) : Bool := hasB c.h (Tide.minOf side k / 60) && hasB c.mi (Tide.minOf side k % 60) && (if side < 0 then decide (at0 + 60 * Tide.minOf side k ≤ sec) else decide (sec < at0 + 60 * Tide.minOf side k))
def Cr.inDay (c : Cr) (at0 sec side : Int) : Option Int := (Tide.firstUnder (c.minB at0 sec side) 1440).map fun k => at0 + 60 * Tide.minOf side k
def foundV (o : Option Int) : Value := match o with | none => .tuple #[.int .i64 0, .bool false] | some n => .tuple #[.int .i64 n, .bool true]
set_option maxRecDepth 100000 in
set_option maxHeartbeats 3200000 in
theorem cronWithinDn (c : Cr) (hf : c.fits) (at0 sec : Int) (w : World) (a0 : -1000000000000 ≤ at0) (a1 : at0 ≤ 1000000000000) :
    Calls Tryz.prog 174 #[.agg c.cells, .int .i64 at0, .int .i64 sec, .int .i64 (-1)] w fun e w' => e = .returned (foundV (c.inDay at0 sec (-1))) ∧ Below w.heap.size w w' := by
  obtain ⟨ci, ch, cd, cm, cw, ad, aw⟩ := c
  have F0 : Word ci := hf.1; have F1 : Word ch := hf.2.1
  clear hf
  have HB := Lib.hid ((Below.refl w.heap.size w).alloc (Nat.le_refl _) (.cells (Cr.cells ⟨ci, ch, cd, cm, cw, ad, aw⟩) 61))
  have HX := Lib.hid (Tide.At.made w 61 (Cr.cells ⟨ci, ch, cd, cm, cw, ad, aw⟩))
  have x0 : (w.alloc (.cells (Cr.cells ⟨ci, ch, cd, cm, cw, ad, aw⟩) 61)).cell? ⟨w.heap.size, 0, none⟩ = some (.int .u64 (ci : Int)) := HX.out.here (i := 0) rfl
  have x1 : (w.alloc (.cells (Cr.cells ⟨ci, ch, cd, cm, cw, ad, aw⟩) 61)).cell? ⟨w.heap.size, 1, none⟩ = some (.int .u64 (ch : Int)) := HX.out.here (i := 1) rfl
  go_enter Tryz.func174, Tryz.ntmps174
  go_wp2_with fail
  generalize w.alloc (.cells (Cr.cells ⟨ci, ch, cd, cm, cw, ad, aw⟩) 61) = W at HB x0 x1 ⊢
  go_loop [13] (fun i => ∃ k : Nat, k ≤ 1440 ∧ i = .int .i64 k ∧ Hid (∀ q, q < k → Cr.minB ⟨ci, ch, cd, cm, cw, ad, aw⟩ at0 sec (-1) q = false)) (fun i => 1440 - (intOf i).toNat)
  case atStart => exact ⟨0, by omega, rfl, Lib.hid (fun q hq => by omega)⟩
  case round =>
    obtain ⟨k, hk, rfl, HN⟩ := hrel
    by_cases hlt : k < 1440
    · have i0 : (0 : Int) ≤ (k : Int) := by omega
      have i1 : (k : Int) < 1440 := by omega
      have hw0 : IntKind.i64.wrap (1439 - (k : Int)) = 1439 - (k : Int) := IntWalk.i64_in _ (by omega)
      go_upto_region 7 with fail
      obtain ⟨m, hm⟩ : ∃ m, Hid ((1439 - (k : Int)) = m) := ⟨_, Lib.hid rfl⟩
      rw [hm.out]
      have m0 : 0 ≤ m := by have := hm.out; omega
      have m1 : m < 1440 := by have := hm.out; omega
      have HMin := Lib.hid (show Cr.minB ⟨ci, ch, cd, cm, cw, ad, aw⟩ at0 sec (-1) k = (hasB ch (m / 60) && hasB ci (m % 60) && decide (at0 + 60 * m ≤ sec)) by unfold Cr.minB Tide.minOf; rw [← hm.out]; rfl)
      have HYes := Lib.hid (fun (h : Cr.minB ⟨ci, ch, cd, cm, cw, ad, aw⟩ at0 sec (-1) k = true) => (show Cr.inDay ⟨ci, ch, cd, cm, cw, ad, aw⟩ at0 sec (-1) = some (at0 + 60 * m) by unfold Cr.inDay; rw [Tide.under_is hlt h HN.out]; show some (at0 + 60 * Tide.minOf (-1) k) = _; unfold Tide.minOf; rw [← hm.out]; rfl))
      have HNo := Lib.hid (fun (h : Cr.minB ⟨ci, ch, cd, cm, cw, ad, aw⟩ at0 sec (-1) k = false) => (show ∀ q, q < k + 1 → Cr.minB ⟨ci, ch, cd, cm, cw, ad, aw⟩ at0 sec (-1) q = false from fun q hq => by
        rcases Nat.lt_succ_iff_lt_or_eq.1 hq with c | c
        · exact HN.out q c
        · rw [c]; exact h))
      have hw1 : IntKind.i64.wrap (60 * m) = 60 * m := IntWalk.i64_in _ (by omega)
      have hw2 : IntKind.i64.wrap (at0 + 60 * m) = at0 + 60 * m := IntWalk.i64_in _ (by omega)
      clear hw0
      go_wp2_with fail
      refine (cronHas ch (m / 60) _ F1).mono ?_
      rintro e w' ⟨rfl, rfl⟩
      cases h1 : hasB ch (m / 60)
      · have HF := Lib.hid (HNo.out (by rw [HMin.out, h1]; rfl))
        go_wp2_with fail
        go_round
        case rel => exact ⟨k + 1, by omega, by first | go_num | (rw [← hm.out]; go_num), HF⟩
        case measure => have := hm.out; simp [intOf]; omega
      · go_wp2_with fail
        refine (cronHas ci (m % 60) _ F0).mono ?_
        rintro e w' ⟨rfl, rfl⟩
        cases h2 : hasB ci (m % 60)
        · have HF := Lib.hid (HNo.out (by rw [HMin.out, h1, h2]; rfl))
          go_wp2_with fail
          go_round
          case rel => exact ⟨k + 1, by omega, by first | go_num | (rw [← hm.out]; go_num), HF⟩
          case measure => have := hm.out; simp [intOf]; omega
        · by_cases h3 : at0 + 60 * m ≤ sec
          · have HF := Lib.hid (HYes.out (by rw [HMin.out, h1, h2, decide_eq_true h3]; rfl))
            go_wp2_with fail
            go_ret2
            exact ⟨by rw [HF.out] <;> rfl, HB.out⟩
          · have h4 : sec < at0 + 60 * m := by omega
            have HF := Lib.hid (HNo.out (by rw [HMin.out, h1, h2, decide_eq_false h3]; rfl))
            clear h3
            go_wp2_with fail
            go_round
            case rel => exact ⟨k + 1, by omega, by first | go_num | (rw [← hm.out]; go_num), HF⟩
            case measure => have := hm.out; simp [intOf]; omega
    · have hke : k = 1440 := by omega
      subst hke
      have HF := Lib.hid (show Cr.inDay ⟨ci, ch, cd, cm, cw, ad, aw⟩ at0 sec (-1) = none by unfold Cr.inDay; rw [Tide.under_all HN.out]; rfl)
      go_wp2_with fail
      go_ret2
      exact ⟨by rw [HF.out] <;> rfl, HB.out⟩
open Go.RowKit
def clampT (n : Int) : Int := min (max n (-100000000000)) 100000000000
def Cr.dayFit (c : Cr) (shift at0 : Int) : Bool := c.day (Tide.moOf ((clampT (at0 + 43200) + 60 * shift) / 86400)) (Tide.dyOf ((clampT (at0 + 43200) + 60 * shift) / 86400)) (((clampT (at0 + 43200) + 60 * shift) / 86400 + 4) % 7)
def dayStart (sec shift : Int) : Int := sec - (sec + 60 * shift) % 86400
def dayAt (sec shift side : Int) (i : Nat) : Int := dayStart sec shift + side * i * 86400
def Cr.hit (c : Cr) (sec shift side : Int) (i : Nat) : Bool := c.dayFit shift (dayAt sec shift side i) && (c.inDay (dayAt sec shift side i) sec side).isSome
def inTime (o : Option Int) : Option Int := match o with | none => none | some n => if n < -100000000000 ∨ 100000000000 < n then none else some n
def Cr.seekO (c : Cr) (sec shift side : Int) : Option Int := match Tide.firstUnder (c.hit sec shift side) 3001 with | none => none | some i => inTime (c.inDay (dayAt sec shift side i) sec side)
def Cr.seekE (c : Cr) (sec shift : Int) : Int := if c.ok then (if okTime sec shift then 0 else 1) else 1
def Cr.seekV (c : Cr) (sec shift side : Int) : Value := if c.ok = true ∧ okTime sec shift then (match c.seekO sec shift side with | none => .tuple #[.int .i64 0, .bool false, .int .i64 0] | some n => .tuple #[.int .i64 n, .bool true, .int .i64 0]) else .tuple #[.int .i64 0, .bool false, .int .i64 1]
theorem rest_parts (t : Int) : 0 ≤ t % 86400 / 3600 ∧ t % 86400 / 3600 ≤ 23 ∧ 0 ≤ t % 86400 / 60 % 60 ∧ t % 86400 / 60 % 60 ≤ 59 ∧ 0 ≤ t % 86400 % 60 ∧ t % 86400 % 60 ≤ 59 ∧ t % 86400 / 3600 * 3600 + t % 86400 / 60 % 60 * 60 + t % 86400 % 60 = t % 86400 := by omega
set_option maxRecDepth 100000 in
set_option maxHeartbeats 6400000 in
theorem cronSeekDn (c : Cr) (hf : c.fits) (sec shift : Int) (w : World) :
    Calls Tryz.prog 171 #[.agg c.cells, .int .i64 sec, .int .i64 shift, .int .i64 (-1)] w fun e w' => e = .returned (c.seekV sec shift (-1)) ∧ Below w.heap.size w w' := by
  obtain ⟨ci, ch, cd, cm, cw, ad, aw⟩ := c
  have HC := Lib.hid hf
  have HB0 := Lib.hid ((Below.refl w.heap.size w).alloc (Nat.le_refl _) (.cells (Cr.cells ⟨ci, ch, cd, cm, cw, ad, aw⟩) 61))
  have HX0 := Lib.hid (Tide.At.made w 61 (Cr.cells ⟨ci, ch, cd, cm, cw, ad, aw⟩))
  clear hf
  cases hok : Cr.ok ⟨ci, ch, cd, cm, cw, ad, aw⟩
  · have HV := Lib.hid (show Cr.seekV ⟨ci, ch, cd, cm, cw, ad, aw⟩ sec shift (-1) = .tuple #[.int .i64 0, .bool false, .int .i64 1] by unfold Cr.seekV; rw [if_neg (by rw [hok]; simp)])
    have he : Cr.err ⟨ci, ch, cd, cm, cw, ad, aw⟩ = 1 := Cr.err_no hok
    clear hok
    unfold Cr.cells
    go_enter Tryz.func171, Tryz.ntmps171
    go_wp2_with fail
    refine (cronCheck ⟨ci, ch, cd, cm, cw, ad, aw⟩ HC.out _).mono ?_
    rintro e w1 ⟨rfl, hb1⟩
    have HF := Lib.hid (HB0.out.trans (hb1.mono HB0.out.size))
    rw [he]
    clear hb1
    go_wp2_with fail
    go_ret3
    exact ⟨by rw [HV.out] <;> rfl, HF.out⟩
  have he : Cr.err ⟨ci, ch, cd, cm, cw, ad, aw⟩ = 0 := Cr.err_yes hok
  by_cases hot : okTime sec shift
  case neg =>
    have HV := Lib.hid (show Cr.seekV ⟨ci, ch, cd, cm, cw, ad, aw⟩ sec shift (-1) = .tuple #[.int .i64 0, .bool false, .int .i64 1] by unfold Cr.seekV; rw [if_neg (fun h => hot h.2)])
    unfold Cr.cells
    go_enter Tryz.func171, Tryz.ntmps171
    go_wp2_with fail
    refine (cronCheck ⟨ci, ch, cd, cm, cw, ad, aw⟩ HC.out _).mono ?_
    rintro e w1 ⟨rfl, hb1⟩
    rw [he]
    have HB1 := Lib.hid (HB0.out.trans (hb1.mono HB0.out.size))
    clear hb1 hok
    go_wp2_with fail
    refine (civOf_no sec shift _ hot).mono ?_
    rintro e w2 ⟨rfl, hb2⟩
    have HF := Lib.hid ((HB1.out.trans (hb2.mono HB1.out.size)).alloc (by have := HB1.out.size; have := hb2.size; omega) (.cells #[.int .i64 0, .int .i64 0, .int .i64 0, .int .i64 0, .int .i64 0, .int .i64 0, .int .i64 0] 248))
    clear hb2 hot
    unfold civZero
    go_wp2_with fail
    go_ret3
    exact ⟨by rw [HV.out] <;> rfl, HF.out⟩
  have HV := Lib.hid (show Cr.seekV ⟨ci, ch, cd, cm, cw, ad, aw⟩ sec shift (-1) = (match Cr.seekO ⟨ci, ch, cd, cm, cw, ad, aw⟩ sec shift (-1) with | none => .tuple #[.int .i64 0, .bool false, .int .i64 0] | some n => .tuple #[.int .i64 n, .bool true, .int .i64 0]) by unfold Cr.seekV; rw [if_pos ⟨hok, hot⟩])
  have HOt := Lib.hid hot
  obtain ⟨t0, t1, t2, t3⟩ := hot
  clear hok
  unfold Cr.cells
  go_enter Tryz.func171, Tryz.ntmps171
  go_wp2_with fail
  refine (cronCheck ⟨ci, ch, cd, cm, cw, ad, aw⟩ HC.out _).mono ?_
  rintro e w1 ⟨rfl, hb1⟩
  rw [he]
  have HB1 := Lib.hid (HB0.out.trans (hb1.mono HB0.out.size))
  have HX1 := Lib.hid (HX0.out.below hb1 HX0.out.inside)
  clear hb1 he HB0 HX0
  go_wp2_with fail
  refine (civOf_yes sec shift _ HOt.out).mono ?_
  rintro e w2 ⟨rfl, hb2⟩
  have HB2 := Lib.hid (HB1.out.trans (hb2.mono HB1.out.size))
  have HX2 := Lib.hid (HX1.out.below hb2 HX1.out.inside)
  clear hb2
  unfold civAgg
  obtain ⟨h0, h1, m0, m1, s0, s1, hsum⟩ := rest_parts (sec + 60 * shift)
  have hst : dayStart sec shift = sec - (sec + 60 * shift) % 86400 := rfl
  generalize (sec + 60 * shift) % 86400 / 3600 = hh at h0 h1 hsum ⊢
  generalize (sec + 60 * shift) % 86400 / 60 % 60 = hm at m0 m1 hsum ⊢
  generalize (sec + 60 * shift) % 86400 % 60 = hs at s0 s1 hsum ⊢
  have q1 : IntKind.i64.wrap (hh * 3600) = hh * 3600 := IntWalk.i64_in _ (by omega)
  have q2 : IntKind.i64.wrap (sec - hh * 3600) = sec - hh * 3600 := IntWalk.i64_in _ (by omega)
  have q3 : IntKind.i64.wrap (hm * 60) = hm * 60 := IntWalk.i64_in _ (by omega)
  have q4 : IntKind.i64.wrap (sec - hh * 3600 - hm * 60) = sec - hh * 3600 - hm * 60 := IntWalk.i64_in _ (by omega)
  have q5 : IntKind.i64.wrap (sec - hh * 3600 - hm * 60 - hs) = sec - hh * 3600 - hm * 60 - hs := IntWalk.i64_in _ (by omega)
  obtain ⟨st, hSt⟩ : ∃ st, Hid (dayStart sec shift = st) := ⟨_, Lib.hid rfl⟩
  have q6 : sec - hh * 3600 - hm * 60 - hs = st := by rw [← hSt.out, hst, ← hsum]; omega
  have st0 : -100000100000 ≤ st := by omega
  have st1 : st ≤ 100000000000 := by omega
  go_upto_region 8 with fail
  try rw [q6]
  clear q1 q2 q3 q4 q5 q6 h0 h1 m0 m1 s0 s1 hsum hst
  have HB3 := Lib.hid (HB2.out.alloc HB2.out.size (.cells #[.int .i64 (Tide.yrOf ((sec + 60 * shift) / 86400)), .int .i64 (Tide.moOf ((sec + 60 * shift) / 86400)), .int .i64 (Tide.dyOf ((sec + 60 * shift) / 86400)), .int .i64 hh, .int .i64 hm, .int .i64 hs, .int .i64 (((sec + 60 * shift) / 86400 + 4) % 7)] 248))
  have HX3 := Lib.hid (HX2.out.alloc (.cells #[.int .i64 (Tide.yrOf ((sec + 60 * shift) / 86400)), .int .i64 (Tide.moOf ((sec + 60 * shift) / 86400)), .int .i64 (Tide.dyOf ((sec + 60 * shift) / 86400)), .int .i64 hh, .int .i64 hm, .int .i64 hs, .int .i64 (((sec + 60 * shift) / 86400 + 4) % 7)] 248))
  clear HB1 HB2 HX1 HX2
  go_wp2_with fail
  generalize w2.alloc (.cells #[.int .i64 (Tide.yrOf ((sec + 60 * shift) / 86400)), .int .i64 (Tide.moOf ((sec + 60 * shift) / 86400)), .int .i64 (Tide.dyOf ((sec + 60 * shift) / 86400)), .int .i64 hh, .int .i64 hm, .int .i64 hs, .int .i64 (((sec + 60 * shift) / 86400 + 4) % 7)] 248) = W at HB3 HX3 ⊢
  go_loopw [48] (fun x wr => ∃ i : Nat, i ≤ 3001 ∧ x = .int .i64 i ∧ Hid (∀ q, q < i → Cr.hit ⟨ci, ch, cd, cm, cw, ad, aw⟩ sec shift (-1) q = false) ∧ Hid (Below W.heap.size W wr)) (fun x _ => 3001 - (intOf x).toNat)
  case atStart => exact ⟨0, by omega, rfl, Lib.hid (fun q hq => by omega), Lib.hid (Below.refl _ _)⟩
  case round =>
    obtain ⟨i, hi, rfl, HN, HB⟩ := hrel
    by_cases hlt : i < 3001
    · have i0 : (0 : Int) ≤ (i : Int) := by omega
      have i1 : (i : Int) < 3001 := by omega
      have q1 : IntKind.i64.wrap ((-1) * (i : Int)) = (-1) * (i : Int) := IntWalk.i64_in _ (by omega)
      have q2 : IntKind.i64.wrap ((-1) * (i : Int) * 86400) = (-1) * (i : Int) * 86400 := IntWalk.i64_in _ (by omega)
      have q3 : IntKind.i64.wrap (st + (-1) * (i : Int) * 86400) = st + (-1) * (i : Int) * 86400 := IntWalk.i64_in _ (by omega)
      go_upto_region 12 with fail
      obtain ⟨a, ha⟩ : ∃ a, Hid (st + -(i : Int) * 86400 = a) := ⟨_, Lib.hid rfl⟩
      rw [ha.out]
      have HDa := Lib.hid (show dayAt sec shift (-1) i = a by unfold dayAt; rw [hSt.out, ← ha.out]; omega)
      have a0 : -1000000000000 ≤ a := by have := ha.out; omega
      have a1 : a ≤ 1000000000000 := by have := ha.out; omega
      have q4 : IntKind.i64.wrap (a + 43200) = a + 43200 := IntWalk.i64_in _ (by omega)
      have HNo := Lib.hid (fun (h : Cr.hit ⟨ci, ch, cd, cm, cw, ad, aw⟩ sec shift (-1) i = false) => (show ∀ q, q < i + 1 → Cr.hit ⟨ci, ch, cd, cm, cw, ad, aw⟩ sec shift (-1) q = false from fun q hq => by
        rcases Nat.lt_succ_iff_lt_or_eq.1 hq with c | c
        · exact HN.out q c
        · rw [c]; exact h))
      have HYes := Lib.hid (fun (h : Cr.hit ⟨ci, ch, cd, cm, cw, ad, aw⟩ sec shift (-1) i = true) => (show Cr.seekO ⟨ci, ch, cd, cm, cw, ad, aw⟩ sec shift (-1) = inTime (Cr.inDay ⟨ci, ch, cd, cm, cw, ad, aw⟩ a sec (-1)) by unfold Cr.seekO; rw [Tide.under_is hlt h HN.out]; simp only [HDa.out]))
      have HHit := Lib.hid (show Cr.hit ⟨ci, ch, cd, cm, cw, ad, aw⟩ sec shift (-1) i = (Cr.dayFit ⟨ci, ch, cd, cm, cw, ad, aw⟩ shift a && (Cr.inDay ⟨ci, ch, cd, cm, cw, ad, aw⟩ a sec (-1)).isSome) by unfold Cr.hit; rw [HDa.out])
      clear q1 q2 q3
      go_cut [17] (fun s17 wx => s17 = .int .i64 (clampT (a + 43200)) ∧ wr = wx)
      case first =>
        by_cases c1 : a + 43200 < -100000000000
        · go_wp2_with fail
          go_meet
          exact ⟨by rw [show clampT (a + 43200) = -100000000000 by unfold clampT; omega], rfl⟩
        · by_cases c2 : 100000000000 < a + 43200
          · have c3 : -100000000000 ≤ a + 43200 := by omega
            clear c1
            go_wp2_with fail
            go_meet
            exact ⟨by rw [show clampT (a + 43200) = 100000000000 by unfold clampT; omega], rfl⟩
          · have c3 : -100000000000 ≤ a + 43200 := by omega
            have c4 : a + 43200 ≤ 100000000000 := by omega
            clear c1 c2
            go_wp2_with fail
            go_meet
            exact ⟨by rw [show clampT (a + 43200) = a + 43200 by unfold clampT; omega], rfl⟩
      case rest =>
      obtain ⟨rfl, rfl⟩ := hcut
      have HDf := Lib.hid (show Cr.dayFit ⟨ci, ch, cd, cm, cw, ad, aw⟩ shift a = Cr.day ⟨ci, ch, cd, cm, cw, ad, aw⟩ (Tide.moOf ((clampT (a + 43200) + 60 * shift) / 86400)) (Tide.dyOf ((clampT (a + 43200) + 60 * shift) / 86400)) (((clampT (a + 43200) + 60 * shift) / 86400 + 4) % 7) from rfl)
      have HOn := Lib.hid (show okTime (clampT (a + 43200)) shift from ⟨by unfold clampT; omega, by unfold clampT; omega, t2, t3⟩)
      generalize clampT (a + 43200) = nn at HDf HOn ⊢
      clear q4
      go_wp2_with fail
      refine (civOf_yes nn shift _ HOn.out).mono ?_
      rintro e w4 ⟨rfl, hb4⟩
      have HB4 := Lib.hid (HB.out.trans (hb4.mono HB.out.size))
      clear hb4
      unfold civAgg
      generalize (nn + 60 * shift) % 86400 / 3600 = gh
      generalize (nn + 60 * shift) % 86400 / 60 % 60 = gm
      generalize (nn + 60 * shift) % 86400 % 60 = gs
      generalize (nn + 60 * shift) / 86400 = D at HDf ⊢
      have HB5 := Lib.hid (HB4.out.alloc HB4.out.size (.cells #[.int .i64 (Tide.yrOf D), .int .i64 (Tide.moOf D), .int .i64 (Tide.dyOf D), .int .i64 gh, .int .i64 gm, .int .i64 gs, .int .i64 ((D + 4) % 7)] 248))
      have HX4 := Lib.hid (HX3.out.below HB4.out HX3.out.inside)
      have hxl := HX4.out.inside
      have x0 : w4.cell? ⟨w.heap.size, 0, none⟩ = some (.int .u64 (ci : Int)) := HX4.out.here (i := 0) rfl
      have x1 : w4.cell? ⟨w.heap.size, 1, none⟩ = some (.int .u64 (ch : Int)) := HX4.out.here (i := 1) rfl
      have x2 : w4.cell? ⟨w.heap.size, 2, none⟩ = some (.int .u64 (cd : Int)) := HX4.out.here (i := 2) rfl
      have x3 : w4.cell? ⟨w.heap.size, 3, none⟩ = some (.int .u64 (cm : Int)) := HX4.out.here (i := 3) rfl
      have x4 : w4.cell? ⟨w.heap.size, 4, none⟩ = some (.int .u64 (cw : Int)) := HX4.out.here (i := 4) rfl
      have x5 : w4.cell? ⟨w.heap.size, 5, none⟩ = some (.bool ad) := HX4.out.here (i := 5) rfl
      have x6 : w4.cell? ⟨w.heap.size, 6, none⟩ = some (.bool aw) := HX4.out.here (i := 6) rfl
      go_wp2_with fail
      refine (cronDay ⟨ci, ch, cd, cm, cw, ad, aw⟩ HC.out _ _ _ _ _ _ _ _).mono ?_
      rintro e w5 ⟨rfl, hb5⟩
      have HB6 := Lib.hid (HB5.out.trans (hb5.mono HB5.out.size))
      clear hb5 x0 x1 x2 x3 x4 x5 x6 hxl HB4 HB5 HX4
      cases hday : Cr.day ⟨ci, ch, cd, cm, cw, ad, aw⟩ (Tide.moOf D) (Tide.dyOf D) ((D + 4) % 7)
      · have HF := Lib.hid (HNo.out (by rw [HHit.out, HDf.out, hday]; rfl))
        clear hday
        go_wp2_with fail
        go_roundw
        case rel => exact ⟨i + 1, by omega, by go_num, HF, HB6⟩
        case measure => simp [intOf]; omega
      · have HX5 := Lib.hid (HX3.out.below HB6.out HX3.out.inside)
        have hxl := HX5.out.inside
        have x0 : w5.cell? ⟨w.heap.size, 0, none⟩ = some (.int .u64 (ci : Int)) := HX5.out.here (i := 0) rfl
        have x1 : w5.cell? ⟨w.heap.size, 1, none⟩ = some (.int .u64 (ch : Int)) := HX5.out.here (i := 1) rfl
        have x2 : w5.cell? ⟨w.heap.size, 2, none⟩ = some (.int .u64 (cd : Int)) := HX5.out.here (i := 2) rfl
        have x3 : w5.cell? ⟨w.heap.size, 3, none⟩ = some (.int .u64 (cm : Int)) := HX5.out.here (i := 3) rfl
        have x4 : w5.cell? ⟨w.heap.size, 4, none⟩ = some (.int .u64 (cw : Int)) := HX5.out.here (i := 4) rfl
        have x5 : w5.cell? ⟨w.heap.size, 5, none⟩ = some (.bool ad) := HX5.out.here (i := 5) rfl
        have x6 : w5.cell? ⟨w.heap.size, 6, none⟩ = some (.bool aw) := HX5.out.here (i := 6) rfl
        have HHit2 := Lib.hid (show Cr.hit ⟨ci, ch, cd, cm, cw, ad, aw⟩ sec shift (-1) i = (Cr.inDay ⟨ci, ch, cd, cm, cw, ad, aw⟩ a sec (-1)).isSome by rw [HHit.out, HDf.out, hday]; rfl)
        clear hday
        go_wp2_with fail
        refine (cronWithinDn ⟨ci, ch, cd, cm, cw, ad, aw⟩ HC.out a sec _ a0 a1).mono ?_
        rintro e w6 ⟨rfl, hb6⟩
        have HB7 := Lib.hid (HB6.out.trans (hb6.mono HB6.out.size))
        have HBe := Lib.hid (HB3.out.trans (HB7.out.mono HB3.out.size))
        clear hb6 x0 x1 x2 x3 x4 x5 x6 hxl
        cases hin : Cr.inDay ⟨ci, ch, cd, cm, cw, ad, aw⟩ a sec (-1) with
        | none =>
          have HF := Lib.hid (HNo.out (by rw [HHit2.out, hin]; rfl))
          unfold foundV
          clear hin
          go_wp2_with fail
          go_roundw
          case rel => exact ⟨i + 1, by omega, by go_num, HF, HB7⟩
          case measure => simp [intOf]; omega
        | some n =>
          have HF0 := Lib.hid (HYes.out (by rw [HHit2.out, hin]; rfl))
          unfold foundV
          by_cases r1 : n < -100000000000
          · have HF := Lib.hid (show Cr.seekV ⟨ci, ch, cd, cm, cw, ad, aw⟩ sec shift (-1) = .tuple #[.int .i64 0, .bool false, .int .i64 0] by rw [HV.out, HF0.out, hin]; unfold inTime; simp only; rw [if_pos (.inl r1)])
            clear hin
            go_wp2_with fail
            go_ret3
            exact ⟨by rw [HF.out] <;> rfl, HBe.out⟩
          · have r1' : -100000000000 ≤ n := by omega
            by_cases r2 : 100000000000 < n
            · have HF := Lib.hid (show Cr.seekV ⟨ci, ch, cd, cm, cw, ad, aw⟩ sec shift (-1) = .tuple #[.int .i64 0, .bool false, .int .i64 0] by rw [HV.out, HF0.out, hin]; unfold inTime; simp only; rw [if_pos (.inr r2)])
              clear hin r1
              go_wp2_with fail
              go_ret3
              exact ⟨by rw [HF.out] <;> rfl, HBe.out⟩
            · have r2' : n ≤ 100000000000 := by omega
              have HF := Lib.hid (show Cr.seekV ⟨ci, ch, cd, cm, cw, ad, aw⟩ sec shift (-1) = .tuple #[.int .i64 n, .bool true, .int .i64 0] by rw [HV.out, HF0.out, hin]; unfold inTime; simp only; rw [if_neg (by omega)])
              clear hin r1 r2
              go_wp2_with fail
              go_ret3
              exact ⟨by rw [HF.out] <;> rfl, HBe.out⟩
    · have hie : i = 3001 := by omega
      subst hie
      have HF := Lib.hid (show Cr.seekV ⟨ci, ch, cd, cm, cw, ad, aw⟩ sec shift (-1) = .tuple #[.int .i64 0, .bool false, .int .i64 0] by rw [HV.out]; unfold Cr.seekO; rw [Tide.under_all HN.out])
      have HBe := Lib.hid (HB3.out.trans (HB.out.mono HB3.out.size))
      go_wp2_with fail
      go_ret3
      exact ⟨by rw [HF.out] <;> rfl, HBe.out⟩
open Go.RowKit
def Cr.seekN (c : Cr) (sec shift side : Int) : Int := if c.ok = true ∧ okTime sec shift then (c.seekO sec shift side).getD 0 else 0
def Cr.seekB (c : Cr) (sec shift side : Int) : Bool := if c.ok = true ∧ okTime sec shift then (c.seekO sec shift side).isSome else false
theorem Cr.seekV_is (c : Cr) (sec shift side : Int) : c.seekV sec shift side = .tuple #[.int .i64 (c.seekN sec shift side), .bool (c.seekB sec shift side), .int .i64 (c.seekE sec shift)] := by
  unfold Cr.seekV Cr.seekN Cr.seekB Cr.seekE
  by_cases h : c.ok = true ∧ okTime sec shift
  · rw [if_pos h, if_pos h, if_pos h, if_pos h.1, if_pos h.2]
    cases c.seekO sec shift side <;> rfl
  · rw [if_neg h, if_neg h, if_neg h]
    by_cases h1 : c.ok = true
    · rw [if_pos h1, if_neg (fun h2 => h ⟨h1, h2⟩)]
    · rw [if_neg h1]
set_option maxRecDepth 100000 in
set_option maxHeartbeats 1600000 in
theorem cronLast (c : Cr) (hf : c.fits) (sec shift : Int) (w : World) :
    Calls Tryz.prog 169 #[.agg c.cells, .int .i64 sec, .int .i64 shift] w fun e w' => e = .returned (.tuple #[.int .i64 (c.seekN sec shift (-1)), .bool (c.seekB sec shift (-1)), .int .i64 (c.seekE sec shift)]) ∧ Below w.heap.size w w' := by
  obtain ⟨ci, ch, cd, cm, cw, ad, aw⟩ := c
  have HC := Lib.hid hf
  have HB := Lib.hid ((Below.refl w.heap.size w).alloc (Nat.le_refl _) (.cells (Cr.cells ⟨ci, ch, cd, cm, cw, ad, aw⟩) 61))
  clear hf
  unfold Cr.cells
  go_enter Tryz.func169, Tryz.ntmps169
  go_wp2_with fail
  refine (cronSeekDn ⟨ci, ch, cd, cm, cw, ad, aw⟩ HC.out sec shift _).mono ?_
  rintro e w1 ⟨rfl, hb⟩
  rw [Cr.seekV_is]
  have HF := Lib.hid (HB.out.trans (hb.mono HB.out.size))
  clear hb
  go_wp2_with fail
  go_ret3
  exact ⟨rfl, HF.out⟩
open Go.RowKit
def spanE (a b : Cr) : Int := if a.ok then b.err else 1
def spanInB (a b : Cr) (sec shift : Int) : Bool := if spanE a b = 0 ∧ okTime sec shift then a.seekB sec shift (-1) && (!(b.seekB sec shift (-1)) || decide (b.seekN sec shift (-1) ≤ a.seekN sec shift (-1))) else false
def spanInE (a b : Cr) (sec shift : Int) : Int := if spanE a b = 0 then (if okTime sec shift then 0 else 1) else 1
set_option maxRecDepth 100000 in
set_option maxHeartbeats 1600000 in
theorem spanCheck (ai ah ad am aw bi bh bd bm bw : Nat) (aa ab ba bb : Bool) (ha : Cr.fits ⟨ai, ah, ad, am, aw, aa, ab⟩) (hb : Cr.fits ⟨bi, bh, bd, bm, bw, ba, bb⟩) (w : World) : Calls Tryz.prog 77 #[.agg #[.int .u64 (ai : Int), .int .u64 (ah : Int), .int .u64 (ad : Int), .int .u64 (am : Int), .int .u64 (aw : Int), .bool aa, .bool ab, .int .u64 (bi : Int), .int .u64 (bh : Int), .int .u64 (bd : Int), .int .u64 (bm : Int), .int .u64 (bw : Int), .bool ba, .bool bb]] w fun e w' => e = .returned (.int .i64 (spanE ⟨ai, ah, ad, am, aw, aa, ab⟩ ⟨bi, bh, bd, bm, bw, ba, bb⟩)) ∧ Below w.heap.size w w' := by
  have HCa := Lib.hid ha; have HCb := Lib.hid hb
  have HB := Lib.hid ((Below.refl w.heap.size w).alloc (Nat.le_refl _) (.cells #[.int .u64 (ai : Int), .int .u64 (ah : Int), .int .u64 (ad : Int), .int .u64 (am : Int), .int .u64 (aw : Int), .bool aa, .bool ab, .int .u64 (bi : Int), .int .u64 (bh : Int), .int .u64 (bd : Int), .int .u64 (bm : Int), .int .u64 (bw : Int), .bool ba, .bool bb] 63))
  have HX := Lib.hid (Tide.At.made w 63 #[.int .u64 (ai : Int), .int .u64 (ah : Int), .int .u64 (ad : Int), .int .u64 (am : Int), .int .u64 (aw : Int), .bool aa, .bool ab, .int .u64 (bi : Int), .int .u64 (bh : Int), .int .u64 (bd : Int), .int .u64 (bm : Int), .int .u64 (bw : Int), .bool ba, .bool bb])
  clear ha hb
  cases hok : Cr.ok ⟨ai, ah, ad, am, aw, aa, ab⟩
  · have he : Cr.err ⟨ai, ah, ad, am, aw, aa, ab⟩ = 1 := Cr.err_no hok
    have HE := Lib.hid (show spanE ⟨ai, ah, ad, am, aw, aa, ab⟩ ⟨bi, bh, bd, bm, bw, ba, bb⟩ = 1 by unfold spanE; rw [if_neg (by rw [hok]; simp)])
    clear hok
    go_enter Tryz.func77, Tryz.ntmps77
    go_wp2_with fail
    refine (cronCheck ⟨ai, ah, ad, am, aw, aa, ab⟩ HCa.out _).mono ?_
    rintro e w1 ⟨rfl, hb1⟩
    rw [he]
    have HF := Lib.hid (HB.out.trans (hb1.mono HB.out.size))
    clear hb1
    go_wp2_with fail
    go_ret
    exact ⟨by rw [HE.out] <;> rfl, HF.out⟩
  · have he : Cr.err ⟨ai, ah, ad, am, aw, aa, ab⟩ = 0 := Cr.err_yes hok
    have HE := Lib.hid (show spanE ⟨ai, ah, ad, am, aw, aa, ab⟩ ⟨bi, bh, bd, bm, bw, ba, bb⟩ = Cr.err ⟨bi, bh, bd, bm, bw, ba, bb⟩ by unfold spanE; rw [if_pos hok])
    clear hok
    go_enter Tryz.func77, Tryz.ntmps77
    go_wp2_with fail
    refine (cronCheck ⟨ai, ah, ad, am, aw, aa, ab⟩ HCa.out _).mono ?_
    rintro e w1 ⟨rfl, hb1⟩
    rw [he]
    have HB1 := Lib.hid (HB.out.trans (hb1.mono HB.out.size))
    have HX1 := Lib.hid (HX.out.below hb1 HX.out.inside)
    clear hb1
    have y0 := HX1.out.here (i := 7) rfl; have y1 := HX1.out.here (i := 8) rfl; have y2 := HX1.out.here (i := 9) rfl; have y3 := HX1.out.here (i := 10) rfl; have y4 := HX1.out.here (i := 11) rfl; have y5 := HX1.out.here (i := 12) rfl; have y6 := HX1.out.here (i := 13) rfl
    go_wp2_with fail
    refine (cronCheck ⟨bi, bh, bd, bm, bw, ba, bb⟩ HCb.out _).mono ?_
    rintro e w2 ⟨rfl, hb2⟩
    have HF := Lib.hid (HB1.out.trans (hb2.mono HB1.out.size))
    clear hb2 y0 y1 y2 y3 y4 y5 y6
    go_wp2_with fail
    go_ret
    exact ⟨by rw [HE.out] <;> rfl, HF.out⟩
set_option maxRecDepth 100000 in
set_option maxHeartbeats 3200000 in
theorem spanIn (ai ah ad am aw bi bh bd bm bw : Nat) (aa ab ba bb : Bool) (ha : Cr.fits ⟨ai, ah, ad, am, aw, aa, ab⟩) (hb : Cr.fits ⟨bi, bh, bd, bm, bw, ba, bb⟩) (sec shift : Int) (w : World) : Calls Tryz.prog 158 #[.agg #[.int .u64 (ai : Int), .int .u64 (ah : Int), .int .u64 (ad : Int), .int .u64 (am : Int), .int .u64 (aw : Int), .bool aa, .bool ab, .int .u64 (bi : Int), .int .u64 (bh : Int), .int .u64 (bd : Int), .int .u64 (bm : Int), .int .u64 (bw : Int), .bool ba, .bool bb], .int .i64 sec, .int .i64 shift] w fun e w' => e = .returned (.tuple #[.bool (spanInB ⟨ai, ah, ad, am, aw, aa, ab⟩ ⟨bi, bh, bd, bm, bw, ba, bb⟩ sec shift), .int .i64 (spanInE ⟨ai, ah, ad, am, aw, aa, ab⟩ ⟨bi, bh, bd, bm, bw, ba, bb⟩ sec shift)]) ∧ Below w.heap.size w w' := by
  have HCa := Lib.hid ha; have HCb := Lib.hid hb
  have HB := Lib.hid ((Below.refl w.heap.size w).alloc (Nat.le_refl _) (.cells #[.int .u64 (ai : Int), .int .u64 (ah : Int), .int .u64 (ad : Int), .int .u64 (am : Int), .int .u64 (aw : Int), .bool aa, .bool ab, .int .u64 (bi : Int), .int .u64 (bh : Int), .int .u64 (bd : Int), .int .u64 (bm : Int), .int .u64 (bw : Int), .bool ba, .bool bb] 63))
  have HX := Lib.hid (Tide.At.made w 63 #[.int .u64 (ai : Int), .int .u64 (ah : Int), .int .u64 (ad : Int), .int .u64 (am : Int), .int .u64 (aw : Int), .bool aa, .bool ab, .int .u64 (bi : Int), .int .u64 (bh : Int), .int .u64 (bd : Int), .int .u64 (bm : Int), .int .u64 (bw : Int), .bool ba, .bool bb])
  have HCk := Lib.hid (fun (W : World) => spanCheck ai ah ad am aw bi bh bd bm bw aa ab ba bb ha hb W)
  clear ha hb
  by_cases hE : spanE ⟨ai, ah, ad, am, aw, aa, ab⟩ ⟨bi, bh, bd, bm, bw, ba, bb⟩ = 0
  case neg =>
    have hE1 : spanE ⟨ai, ah, ad, am, aw, aa, ab⟩ ⟨bi, bh, bd, bm, bw, ba, bb⟩ = 1 := by unfold spanE Cr.err at hE ⊢; split at hE <;> (try split at hE) <;> simp_all
    have H1 := Lib.hid (show spanInB ⟨ai, ah, ad, am, aw, aa, ab⟩ ⟨bi, bh, bd, bm, bw, ba, bb⟩ sec shift = false by unfold spanInB; rw [if_neg (fun h => hE h.1)])
    have H2 := Lib.hid (show spanInE ⟨ai, ah, ad, am, aw, aa, ab⟩ ⟨bi, bh, bd, bm, bw, ba, bb⟩ sec shift = 1 by unfold spanInE; rw [if_neg hE])
    clear hE
    go_enter Tryz.func158, Tryz.ntmps158
    go_wp2_with fail
    refine (HCk.out _).mono ?_
    rintro e w1 ⟨rfl, hb1⟩
    rw [hE1]
    have HF := Lib.hid (HB.out.trans (hb1.mono HB.out.size))
    clear hb1
    go_wp2_with fail
    go_ret2
    exact ⟨by rw [H1.out, H2.out] <;> rfl, HF.out⟩
  have hoa : Cr.ok ⟨ai, ah, ad, am, aw, aa, ab⟩ = true := by unfold spanE at hE; split at hE; assumption; cases hE
  go_enter Tryz.func158, Tryz.ntmps158
  go_wp2_with fail
  refine (HCk.out _).mono ?_
  rintro e w1 ⟨rfl, hb1⟩
  rw [hE]
  have HB1 := Lib.hid (HB.out.trans (hb1.mono HB.out.size))
  have HX1 := Lib.hid (HX.out.below hb1 HX.out.inside)
  clear hb1
  have z0 := HX1.out.here (i := 0) rfl; have z1 := HX1.out.here (i := 1) rfl; have z2 := HX1.out.here (i := 2) rfl; have z3 := HX1.out.here (i := 3) rfl; have z4 := HX1.out.here (i := 4) rfl; have z5 := HX1.out.here (i := 5) rfl; have z6 := HX1.out.here (i := 6) rfl
  go_wp2_with fail
  refine (cronLast ⟨ai, ah, ad, am, aw, aa, ab⟩ HCa.out sec shift _).mono ?_
  rintro e w2 ⟨rfl, hb2⟩
  have HB2 := Lib.hid (HB1.out.trans (hb2.mono HB1.out.size))
  have HX2 := Lib.hid (HX1.out.below hb2 HX1.out.inside)
  clear hb2 z0 z1 z2 z3 z4 z5 z6
  by_cases hot : okTime sec shift
  case neg =>
    have he : Cr.seekE ⟨ai, ah, ad, am, aw, aa, ab⟩ sec shift = 1 := by unfold Cr.seekE; rw [if_pos hoa, if_neg hot]
    have H1 := Lib.hid (show spanInB ⟨ai, ah, ad, am, aw, aa, ab⟩ ⟨bi, bh, bd, bm, bw, ba, bb⟩ sec shift = false by unfold spanInB; rw [if_neg (fun h => hot h.2)])
    have H2 := Lib.hid (show spanInE ⟨ai, ah, ad, am, aw, aa, ab⟩ ⟨bi, bh, bd, bm, bw, ba, bb⟩ sec shift = 1 by unfold spanInE; rw [if_pos hE, if_neg hot])
    rw [he]
    clear he hot hE hoa
    go_wp2_with fail
    go_ret2
    exact ⟨by rw [H1.out, H2.out] <;> rfl, HB2.out⟩
  have he : Cr.seekE ⟨ai, ah, ad, am, aw, aa, ab⟩ sec shift = 0 := by unfold Cr.seekE; rw [if_pos hoa, if_pos hot]
  have H1 := Lib.hid (show spanInB ⟨ai, ah, ad, am, aw, aa, ab⟩ ⟨bi, bh, bd, bm, bw, ba, bb⟩ sec shift = (Cr.seekB ⟨ai, ah, ad, am, aw, aa, ab⟩ sec shift (-1) && (!(Cr.seekB ⟨bi, bh, bd, bm, bw, ba, bb⟩ sec shift (-1)) || decide (Cr.seekN ⟨bi, bh, bd, bm, bw, ba, bb⟩ sec shift (-1) ≤ Cr.seekN ⟨ai, ah, ad, am, aw, aa, ab⟩ sec shift (-1)))) by unfold spanInB; rw [if_pos ⟨hE, hot⟩])
  have H2 := Lib.hid (show spanInE ⟨ai, ah, ad, am, aw, aa, ab⟩ ⟨bi, bh, bd, bm, bw, ba, bb⟩ sec shift = 0 by unfold spanInE; rw [if_pos hE, if_pos hot])
  rw [he]
  clear he hot hE hoa
  have y0 := HX2.out.here (i := 7) rfl; have y1 := HX2.out.here (i := 8) rfl; have y2 := HX2.out.here (i := 9) rfl; have y3 := HX2.out.here (i := 10) rfl; have y4 := HX2.out.here (i := 11) rfl; have y5 := HX2.out.here (i := 12) rfl; have y6 := HX2.out.here (i := 13) rfl
  generalize Cr.seekN ⟨ai, ah, ad, am, aw, aa, ab⟩ sec shift (-1) = na at H1 ⊢
  generalize Cr.seekB ⟨ai, ah, ad, am, aw, aa, ab⟩ sec shift (-1) = ba' at H1 ⊢
  go_wp2_with fail
  refine (cronLast ⟨bi, bh, bd, bm, bw, ba, bb⟩ HCb.out sec shift _).mono ?_
  rintro e w3 ⟨rfl, hb3⟩
  have HF := Lib.hid (HB2.out.trans (hb3.mono HB2.out.size))
  clear hb3 y0 y1 y2 y3 y4 y5 y6
  generalize Cr.seekN ⟨bi, bh, bd, bm, bw, ba, bb⟩ sec shift (-1) = nb at H1 ⊢
  generalize Cr.seekB ⟨bi, bh, bd, bm, bw, ba, bb⟩ sec shift (-1) = bb' at H1 ⊢
  cases ba' <;> cases bb'
  all_goals
    go_wp2_with fail
    go_ret2
    exact ⟨by rw [H1.out, H2.out] <;> rfl, HF.out⟩
open Go.RowKit
structure Trg where
  kind : Int
  target : Int
  act : Int
  a : Cr
  b : Cr
def Cr.list (c : Cr) : List Value := [.int .u64 (c.mi : Int), .int .u64 (c.h : Int), .int .u64 (c.d : Int), .int .u64 (c.mo : Int), .int .u64 (c.wk : Int), .bool c.ad, .bool c.aw]
def Trg.enc (t : Trg) : List Value := [.int .i64 t.kind, .int .i64 t.target, .int .i64 t.act, .int .u64 (t.a.mi : Int), .int .u64 (t.a.h : Int), .int .u64 (t.a.d : Int), .int .u64 (t.a.mo : Int), .int .u64 (t.a.wk : Int), .bool t.a.ad, .bool t.a.aw, .int .u64 (t.b.mi : Int), .int .u64 (t.b.h : Int), .int .u64 (t.b.d : Int), .int .u64 (t.b.mo : Int), .int .u64 (t.b.wk : Int), .bool t.b.ad, .bool t.b.aw]
theorem Trg.enc_length (t : Trg) : t.enc.length = 17 := rfl
def Trg.fits (t : Trg) : Prop := t.a.fits ∧ t.b.fits
def Cr.isZero (c : Cr) : Bool := c.mi == 0 && c.h == 0 && c.d == 0 && c.mo == 0 && c.wk == 0 && !c.ad && !c.aw
def wiB (n lo hi : Int) : Bool := decide (lo ≤ n) && decide (n ≤ hi)
def trigE (t : Trg) : Int :=
  if t.kind = 1 ∨ t.kind = 2 then (if wiB t.target 1 1000000 && (wiB t.act 0 1000000 && (t.a.isZero && t.b.isZero)) then 0 else 1)
  else if t.kind = 3 then (if wiB t.target 1 50 && t.act == 0 then spanE t.a t.b else 1) else 1
def trigsE : List Trg → Int
  | [] => 0
  | t :: l => if trigE t = 0 then trigsE l else trigE t
theorem trigsE_all {l : List Trg} (h : ∀ t ∈ l, trigE t = 0) : trigsE l = 0 := by
  induction l with
  | nil => rfl
  | cons t l ih => unfold trigsE; rw [if_pos (h t (by simp))]; exact ih fun u hu => h u (by simp [hu])
theorem trigsE_at {l : List Trg} : ∀ {k : Nat} {t : Trg}, l[k]? = some t → (∀ q u, q < k → l[q]? = some u → trigE u = 0) → trigE t ≠ 0 → trigsE l = trigE t := by
  induction l with
  | nil => intro k t h; simp at h
  | cons u l ih =>
    intro k t h hlo hne
    rcases k with _ | k
    · simp at h; subst h; unfold trigsE; rw [if_neg hne]
    · simp at h
      unfold trigsE
      rw [if_pos (hlo 0 u (by omega) rfl)]
      exact ih h (fun q v hq hv => hlo (q + 1) v (by omega) (by simpa using hv)) hne
theorem trigsE_mem {l : List Trg} (h : trigsE l = 0) : ∀ t ∈ l, trigE t = 0 := by
  induction l with
  | nil => intro t ht; cases ht
  | cons u l ih =>
    unfold trigsE at h
    by_cases hu : trigE u = 0
    · rw [if_pos hu] at h
      intro t ht
      rcases List.mem_cons.1 ht with rfl | ht
      · exact hu
      · exact ih h t ht
    · rw [if_neg hu] at h; exact absurd h hu
structure Pln where
  name : ByteArray
  mn : Int
  mx : Int
  poll : Int
  cool : Int
  tol : Int
  back : Int
  after : Int
  shift : Int
  up : Tide.Pace
  down : Tide.Pace
  trigs : List Trg
def byteOk (b : UInt8) : Bool := (decide (97 ≤ b.toNat) && decide (b.toNat ≤ 122)) || (decide (48 ≤ b.toNat) && decide (b.toNat ≤ 57)) || b == 45
def nameOk (s : ByteArray) : Bool := s.data.all byteOk && wiB s.size 1 16
def paceOk (p : Tide.Pace) : Bool := wiB p.win 0 100000 && (wiB p.pods 0 50 && (wiB p.pct 0 1000 && wiB p.per 0 100000))
def Pln.nums (p : Pln) : Bool := wiB p.mn 0 50 && (wiB p.mx (max 1 p.mn) 50 && (wiB p.poll 1 100000 && (wiB p.cool 1 100000 && (wiB p.tol 0 1000 && (wiB p.back 0 50 && (wiB p.after 0 100 && (wiB p.shift (-900) 900 && (paceOk p.up && paceOk p.down))))))))
def planE (p : Pln) : Int := if nameOk p.name = false then 3 else if 5 < p.trigs.length then 2 else if p.nums = false then 1 else trigsE p.trigs
structure Pln.ok (p : Pln) : Prop where
  mn : 0 ≤ p.mn ∧ p.mn ≤ 50
  mx : 1 ≤ p.mx ∧ p.mn ≤ p.mx ∧ p.mx ≤ 50
  poll : 1 ≤ p.poll ∧ p.poll ≤ 100000
  cool : 1 ≤ p.cool ∧ p.cool ≤ 100000
  tol : 0 ≤ p.tol ∧ p.tol ≤ 1000
  back : 0 ≤ p.back ∧ p.back ≤ 50
  after : 0 ≤ p.after ∧ p.after ≤ 100
  shift : -900 ≤ p.shift ∧ p.shift ≤ 900
  few : p.trigs.length ≤ 5
  each : ∀ t ∈ p.trigs, trigE t = 0
theorem wiB_iff {n lo hi : Int} : wiB n lo hi = true ↔ lo ≤ n ∧ n ≤ hi := by unfold wiB; simp
theorem planE_ok {p : Pln} (h : planE p = 0) : p.ok := by
  unfold planE at h
  split at h
  · cases h
  · split at h
    · cases h
    · split at h
      · cases h
      · rename_i h1 h2 h3
        have h3' : p.nums = true := by simpa using h3
        unfold Pln.nums at h3'
        simp only [Bool.and_eq_true, wiB_iff] at h3'
        obtain ⟨a, b, c, d, e, f, g, i, _, _⟩ := h3'
        exact ⟨a, ⟨by omega, by omega, b.2⟩, c, d, e, f, g, i, by omega, trigsE_mem h⟩
def Pln.head (p : Pln) (vt : Value) : List Value := [.string p.name, .int .i64 p.mn, .int .i64 p.mx, .int .i64 p.poll, .int .i64 p.cool, .int .i64 p.tol, .int .i64 p.back, .int .i64 p.after, .int .i64 p.shift, .int .i64 p.up.win, .int .i64 p.up.pods, .int .i64 p.up.pct, .int .i64 p.up.per, .int .i64 p.down.win, .int .i64 p.down.pods, .int .i64 p.down.pct, .int .i64 p.down.per, vt]
def plnV (p : Pln) (vt : Value) : Value := .agg #[.string p.name, .int .i64 p.mn, .int .i64 p.mx, .int .i64 p.poll, .int .i64 p.cool, .int .i64 p.tol, .int .i64 p.back, .int .i64 p.after, .int .i64 p.shift, .int .i64 p.up.win, .int .i64 p.up.pods, .int .i64 p.up.pct, .int .i64 p.up.per, .int .i64 p.down.win, .int .i64 p.down.pods, .int .i64 p.down.pct, .int .i64 p.down.per, vt]
def plnC (p : Pln) (vt : Value) : Array Value := #[.string p.name, .int .i64 p.mn, .int .i64 p.mx, .int .i64 p.poll, .int .i64 p.cool, .int .i64 p.tol, .int .i64 p.back, .int .i64 p.after, .int .i64 p.shift, .int .i64 p.up.win, .int .i64 p.up.pods, .int .i64 p.up.pct, .int .i64 p.up.per, .int .i64 p.down.win, .int .i64 p.down.pods, .int .i64 p.down.pct, .int .i64 p.down.per, vt]
open Go.RowKit
set_option maxHeartbeats 400000 in
theorem planWithin (n lo hi : Int) (w : World) : Calls Tryz.prog 45 #[.int .i64 n, .int .i64 lo, .int .i64 hi] w fun e w' => e = .returned (.bool (wiB n lo hi)) ∧ w = w' := by
  by_cases h0 : lo ≤ n
  · by_cases h1 : n ≤ hi
    · have hv := Lib.hid (show wiB n lo hi = true by unfold wiB; simp [h0, h1])
      go_enter Tryz.func45, Tryz.ntmps45
      go_wp2
      go_ret
      exact ⟨by rw [hv.out] <;> rfl, rfl⟩
    · have hv := Lib.hid (show wiB n lo hi = false by unfold wiB; simp [h1])
      have h2 : hi < n := by omega
      have h3 : decide (n ≤ hi) = false := decide_eq_false h1
      clear h1
      go_enter Tryz.func45, Tryz.ntmps45
      go_wp2
      go_ret
      exact ⟨by rw [hv.out] <;> rfl, rfl⟩
  · have hv := Lib.hid (show wiB n lo hi = false by unfold wiB; simp [h0])
    have h2 : n < lo := by omega
    clear h0
    go_enter Tryz.func45, Tryz.ntmps45
    go_wp2
    go_ret
    exact ⟨by rw [hv.out] <;> rfl, rfl⟩
def byteAt (s : ByteArray) (k : Nat) : Nat := (s.data[k]?.getD 0).toNat
theorem byte_at {s : ByteArray} {k : Nat} (h : k < s.size) : (s[k]'h).toNat = byteAt s k := by
  unfold byteAt
  have e : s.data[k]? = some (s.data[k]'h) := Array.getElem?_eq_getElem h
  rw [e]; rfl
def byteB (x : Nat) : Bool := (decide (97 ≤ x) && decide (x ≤ 122)) || (decide (48 ≤ x) && decide (x ≤ 57)) || x == 45
theorem byteB_is (b : UInt8) : byteB b.toNat = byteOk b := by
  unfold byteB byteOk
  congr 1
  rw [Bool.eq_iff_iff]
  simp only [beq_iff_eq]
  exact ⟨fun h => UInt8.toNat_inj.1 h, fun h => by rw [h]; rfl⟩
theorem name_all (s : ByteArray) : s.data.all byteOk = true ↔ ∀ k, k < s.size → byteB (byteAt s k) = true := by
  rw [Array.all_eq_true]
  constructor
  · intro h k hk
    unfold byteAt
    rw [Array.getElem?_eq_getElem hk]
    show byteB _ = true
    rw [Option.getD_some, byteB_is]
    exact h k hk
  · intro h k hk
    have := h k hk
    unfold byteAt at this
    rw [Array.getElem?_eq_getElem hk, Option.getD_some, byteB_is] at this
    exact this
theorem name_bad {s : ByteArray} {k : Nat} (hk : k < s.size) (h : byteB (byteAt s k) = false) : nameOk s = false := by
  unfold nameOk
  cases ha : s.data.all byteOk
  · rfl
  · rw [(name_all s).1 ha k hk] at h; cases h
theorem name_good {s : ByteArray} (h : ∀ k, k < s.size → byteB (byteAt s k) = true) : nameOk s = wiB s.size 1 16 := by
  unfold nameOk
  rw [(name_all s).2 h]; rfl
theorem byteAt_bd (s : ByteArray) (k : Nat) : byteAt s k ≤ 255 := by
  unfold byteAt
  have := UInt8.toNat_lt (s.data[k]?.getD 0)
  omega
set_option maxHeartbeats 1600000 in
theorem planNamed (s : ByteArray) (hs : s.size ≤ 9223372036854775807) (w : World) : Calls Tryz.prog 44 #[.string s] w fun e w' => e = .returned (.bool (nameOk s)) ∧ w = w' := by
  go_enter Tryz.func44, Tryz.ntmps44
  go_wp2_with fail
  go_loop [7] (fun i => ∃ k : Nat, k ≤ s.size ∧ i = .int .i64 k ∧ Hid (∀ q, q < k → byteB (byteAt s q) = true)) (fun i => s.size - (intOf i).toNat)
  case atStart => exact ⟨0, by omega, rfl, Lib.hid (fun q hq => by omega)⟩
  case round =>
    obtain ⟨k, hk, rfl, HN⟩ := hrel
    by_cases hlt : k < s.size
    · have i0 : (0 : Int) ≤ (k : Int) := by omega
      have i1 : (k : Int) < (s.size : Int) := by omega
      have HYes := Lib.hid (fun (h : byteB (byteAt s k) = true) => (show ∀ q, q < k + 1 → byteB (byteAt s q) = true from fun q hq => by
        rcases Nat.lt_succ_iff_lt_or_eq.1 hq with c | c
        · exact HN.out q c
        · rw [c]; exact h))
      have HNo := Lib.hid (fun (h : byteB (byteAt s k) = false) => name_bad hlt h)
      have HVal := Lib.hid (show byteB (byteAt s k) = ((decide (97 ≤ byteAt s k) && decide (byteAt s k ≤ 122)) || (decide (48 ≤ byteAt s k) && decide (byteAt s k ≤ 57)) || byteAt s k == 45) from rfl)
      have hx := byteAt_bd s k
      go_upto_region 5 with fail
      rw [byte_at hlt]
      generalize byteAt s k = x at HYes HNo HVal hx ⊢
      have x0 : (0 : Int) ≤ (x : Int) := by omega
      have x1 : (x : Int) ≤ 255 := by omega
      have HK := Lib.hid hlt
      clear hx hk
      by_cases a1 : x < 97
      · by_cases b1 : x < 48
        · by_cases c1 : x = 45
          · have HF := Lib.hid (HYes.out (by rw [HVal.out, c1]; rfl))
            subst c1
            clear a1 b1 x0 x1 HYes HNo HVal
            go_wp2_with fail
            go_round
            case rel => exact ⟨k + 1, by have := HK.out; omega, by go_num, HF⟩
            case measure => have := HK.out; simp [intOf]; omega
          · have HF := Lib.hid (HNo.out (by rw [HVal.out, decide_eq_false (show ¬ 97 ≤ x by omega), decide_eq_false (show ¬ 48 ≤ x by omega)]; simpa using c1))
            have c2 : ((x : Int) != 45) = true := by simp; omega
            have b2 : (x : Int) < 48 := by omega
            have a2 : (x : Int) < 97 := by omega
            clear a1 b1 c1 HYes HNo HVal
            go_wp2_with fail
            go_ret
            exact ⟨by rw [HF.out] <;> rfl, rfl⟩
        · by_cases b2 : 57 < x
          · have HF := Lib.hid (HNo.out (by rw [HVal.out, decide_eq_false (show ¬ 97 ≤ x by omega), decide_eq_false (show ¬ x ≤ 57 by omega)]; simp; omega))
            have c2 : ((x : Int) != 45) = true := by simp; omega
            have b3 : (57 : Int) < (x : Int) := by omega
            have b4 : (48 : Int) ≤ (x : Int) := by omega
            have a2 : (x : Int) < 97 := by omega
            clear a1 b1 b2 HYes HNo HVal
            go_wp2_with fail
            go_ret
            exact ⟨by rw [HF.out] <;> rfl, rfl⟩
          · have HF := Lib.hid (HYes.out (by rw [HVal.out, decide_eq_true (show 48 ≤ x by omega), decide_eq_true (show x ≤ 57 by omega)]; simp))
            have b3 : (x : Int) ≤ 57 := by omega
            have b4 : (48 : Int) ≤ (x : Int) := by omega
            have a2 : (x : Int) < 97 := by omega
            clear a1 b1 b2 HYes HNo HVal
            go_wp2_with fail
            go_round
            case rel => exact ⟨k + 1, by have := HK.out; omega, by go_num, HF⟩
            case measure => have := HK.out; simp [intOf]; omega
      · by_cases a2 : 122 < x
        · have HF := Lib.hid (HNo.out (by rw [HVal.out, decide_eq_false (show ¬ x ≤ 122 by omega), decide_eq_false (show ¬ x ≤ 57 by omega)]; simp; omega))
          have c2 : ((x : Int) != 45) = true := by simp; omega
          have a3 : (122 : Int) < (x : Int) := by omega
          have b4 : (57 : Int) < (x : Int) := by omega
          have a4 : (97 : Int) ≤ (x : Int) := by omega
          clear a1 a2 HYes HNo HVal
          go_wp2_with fail
          go_ret
          exact ⟨by rw [HF.out] <;> rfl, rfl⟩
        · have HF := Lib.hid (HYes.out (by rw [HVal.out, decide_eq_true (show 97 ≤ x by omega), decide_eq_true (show x ≤ 122 by omega)]; simp))
          have a3 : (x : Int) ≤ 122 := by omega
          have a4 : (97 : Int) ≤ (x : Int) := by omega
          clear a1 a2 HYes HNo HVal
          go_wp2_with fail
          go_round
          case rel => exact ⟨k + 1, by have := HK.out; omega, by go_num, HF⟩
          case measure => have := HK.out; simp [intOf]; omega
    · have hie : k = s.size := by omega
      subst hie
      have HF := Lib.hid (name_good HN.out)
      clear hk hlt
      go_wp2_with fail
      refine (planWithin _ 1 16 _).mono ?_
      rintro e w' ⟨rfl, rfl⟩
      go_wp2_with fail
      go_ret
      exact ⟨by rw [HF.out] <;> rfl, rfl⟩
open Go.RowKit
theorem settle_ok {s : Tide.Stb} {j : Nat} {now have0 want : Int} (h : s.ok j) : (Tide.settleS s now have0 want).ok (j + 1) := by
  unfold Tide.settleS
  cases hk : Tide.settleOk s now have0 want
  · simp only [Bool.false_eq_true, if_false]
    exact ⟨h.up, h.down, h.last0, h.last1, h.wan, h.mov, h.wsort, h.msort, Nat.le_succ_of_le h.wlen, Nat.le_succ_of_le h.mlen⟩
  · simp only [if_true]
    have h1 := Stb.ok_seen h hk
    split
    · exact h1
    · have hb := hk
      unfold Tide.settleOk at hb
      simp only [Bool.and_eq_true, decide_eq_true_eq] at hb
      obtain ⟨⟨⟨a1, a2⟩, a3, a4⟩, a5, a6⟩ := hb
      have := settleN0_bd (s.seen now want) now have0 want (fun m hm => (h1.wan m hm).1) a3 a4 a5 a6
      exact Stb.ok_went (s := s.seen now want) h1 (by omega) (by omega) (by show s.moved.length + 1 ≤ _; have := h.mlen; omega)
def Tide.newStb (u d : Tide.Pace) : Tide.Stb := ⟨u.fix, d.fix, 0, [], []⟩
theorem newStb_ok (u d : Tide.Pace) : (Tide.newStb u d).ok 0 := ⟨u.fix_ok, d.fix_ok, by show (0 : Int) ≤ 0; omega, by show (0 : Int) ≤ _; omega, by simp [Tide.newStb], by simp [Tide.newStb], List.Pairwise.nil, List.Pairwise.nil, Nat.le_refl _, Nat.le_refl _⟩
structure Solo (w0 w : World) (S : Nat → Prop) : Prop where
  own : ∀ b, S b → w0.heap.size ≤ b
  below : Below w0.heap.size w0 w
theorem Solo.next {w0 w w1 : World} {S : Nat → Prop} (h : Solo w0 w S) (hc : Tide.Chg S w w1) : Solo w0 w1 (Tide.Plus S w w1) :=
  ⟨fun b hb => by
      have := h.below.size
      rcases hb with hb | hb
      · exact h.own b hb
      · omega, h.below.trans (hc.below h.below.size (fun k hk hS => by have := h.own k hS; omega))⟩
theorem Solo.alloc {w0 w : World} {S : Nat → Prop} (h : Solo w0 w S) (o : Obj) : Solo w0 (w.alloc o) S := ⟨h.own, h.below.alloc h.below.size o⟩
def NewStbPost (T TM : TypeId) (w : World) (s : Tide.Stb) (e : Ending) (w' : World) : Prop := ∃ g, e = .returned (.pointer (some ⟨g, 0, none⟩)) ∧ StbAt T TM (Tide.Plus (fun _ => False) w w') w' g s (.slice none 0 0) (.slice none 0 0) ∧ Below w.heap.size w w'
theorem stb_made {T TM : TypeId} {w w1 : World} {s : Tide.Stb} (hb : Below w.heap.size w w1) (h1 : s.wanted = []) (h2 : s.moved = []) :
    NewStbPost T TM w s (.returned (.pointer (some ⟨w1.heap.size, 0, none⟩))) (w1.alloc (.cells #[.int .i64 s.up.win, .int .i64 s.up.pods, .int .i64 s.up.pct, .int .i64 s.up.per, .int .i64 s.down.win, .int .i64 s.down.pods, .int .i64 s.down.pct, .int .i64 s.down.per, .int .i64 s.last, .slice none 0 0, .slice none 0 0] T)) :=
  ⟨_, rfl, ⟨Tide.At.made _ _ _, by rw [h1]; exact Tide.OwnRow.nil _ _ _ _, by rw [h2]; exact Tide.OwnRow.nil _ _ _ _, fun b hb => by simp [Value.ownBlock] at hb, .inr ⟨hb.size, by simp⟩, fun b hb => by rcases hb with hb | hb; exact hb.elim; exact hb.2⟩, hb.alloc hb.size _⟩
theorem _root_.Go.RowKit.Below.cell_frozen {W w1 : World} (hb : Below W.heap.size W w1) : (∀ b o, b < W.heap.size → w1.cell? ⟨b, o, none⟩ = W.cell? ⟨b, o, none⟩) ∧ (∀ b o, b < W.heap.size → w1.frozen? ⟨b, o, none⟩ = W.frozen? ⟨b, o, none⟩) :=
  ⟨fun b o h => hb.cell (p := ⟨b, o, none⟩) h, fun b o h => hb.frozen (p := ⟨b, o, none⟩) h⟩
theorem right4 (a b c d : Int) (w0 W : World) (h : Below w0.heap.size w0 W) : Calls Tryz.prog 88 #[.agg #[.int .i64 a, .int .i64 b, .int .i64 c, .int .i64 d]] W fun e w' => e = .returned (.agg #[.int .i64 (Tide.clipT a), .int .i64 (Tide.clipT b), .int .i64 (Tide.clipT c), .int .i64 (Tide.clipT d)]) ∧ Below w0.heap.size w0 w' ∧ (∀ b o, b < W.heap.size → w'.cell? ⟨b, o, none⟩ = W.cell? ⟨b, o, none⟩) :=
  (stbRight ⟨a, b, c, d⟩ W).mono fun _ _ ⟨he, hb⟩ => ⟨he, h.trans (hb.mono h.size), hb.cell_frozen.1⟩
set_option maxRecDepth 100000 in
set_option maxHeartbeats 1600000 in
theorem stbNew (u d : Tide.Pace) (w : World) : Calls Tryz.prog 60 #[.agg #[.int .i64 u.win, .int .i64 u.pods, .int .i64 u.pct, .int .i64 u.per], .agg #[.int .i64 d.win, .int .i64 d.pods, .int .i64 d.pct, .int .i64 d.per]] w (NewStbPost 173 224 w (Tide.newStb u d)) := by
  have hA := (Tide.At.made w 23 #[.int .i64 u.win, .int .i64 u.pods, .int .i64 u.pct, .int .i64 u.per]).alloc (.cells #[.int .i64 d.win, .int .i64 d.pods, .int .i64 d.pct, .int .i64 d.per] 23)
  have hB := Tide.At.made (w.alloc (.cells #[.int .i64 u.win, .int .i64 u.pods, .int .i64 u.pct, .int .i64 u.per] 23)) 23 #[.int .i64 d.win, .int .i64 d.pods, .int .i64 d.pct, .int .i64 d.per]
  simp only [World.size_alloc] at hB
  have hb0 : Below w.heap.size w ((w.alloc (.cells #[.int .i64 u.win, .int .i64 u.pods, .int .i64 u.pct, .int .i64 u.per] 23)).alloc (.cells #[.int .i64 d.win, .int .i64 d.pods, .int .i64 d.pct, .int .i64 d.per] 23)) := ((Below.refl _ _).alloc (Nat.le_refl _) _).alloc (by simp) _
  have HA := Lib.hid hA.drew; have HB := Lib.hid hB.drew; have H0 := Lib.hid hb0.drew
  clear hA hB hb0
  go_enter Tryz.func60, Tryz.ntmps60
  go_wp2_with fail
  have hb1 := H0.out
  go_region_with (go_at_call 88; refine (right4 _ _ _ _ w _ (by assumption)).mono ?_; rintro e w1 ⟨rfl, hb1, hc1⟩)
  all_goals
    have HF := Lib.hid (stb_made (T := 173) (TM := 224) (s := Tide.newStb u d) hb1 rfl rfl)
    clear hb1
    go_wp2_with fail
    go_ret
    exact HF.out
end Go.Proofs.YtidonhndeohdlaaGreatDoor
