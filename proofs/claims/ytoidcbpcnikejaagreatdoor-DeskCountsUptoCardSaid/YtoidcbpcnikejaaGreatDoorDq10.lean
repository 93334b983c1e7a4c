/- Parts of this claim: CronD, CronW, CronX, CronY, SpanC. -/
import Derived.Deep.DeepCutAuto
import Derived.Deep.CutBlock
import Derived.Test.YtoidcbpcnikejaaGreatDoorDqCronK
import Derived.Test.YtoidcbpcnikejaaGreatDoorDq01
set_option linter.unusedVariables false
set_option linter.unusedSimpArgs false
set_option maxRecDepth 100000
set_option maxHeartbeats 12800000
namespace Go.Proofs.YtoidcbpcnikejaaGreatDoor
open Go.RowKit
def civ (y mo d h mi s wk : Int) : Value := .agg #[.int .i64 y, .int .i64 mo, .int .i64 d, .int .i64 h, .int .i64 mi, .int .i64 s, .int .i64 wk]
def Cr.day (c : Cr) (mo d wk : Int) : Bool := hasB c.mo mo && (if c.ad || c.aw then hasB c.d d && hasB c.wk wk else hasB c.d d || hasB c.wk wk)
def Cr.fit (c : Cr) (mo d h mi wk : Int) : Bool := c.day mo d wk && hasB c.h h && hasB c.mi mi
def Word (s : Nat) : Prop := s < 18446744073709551616
theorem cronHas' (s : Nat) (n : Int) (w : World) (hs : Word s) : Calls Tryz.prog 152 #[.int .u64 (s : Int), .int .i64 n] w fun e w' => e = .returned (.bool (hasB s n)) ∧ w' = w :=
 (cronHas s n w hs).mono fun _ _ ⟨a, b⟩ => ⟨a, b.symm⟩
theorem cronDay (c : Cr) (hf : c.fits) (y mo d h mi s wk : Int) (w : World) : Calls Tryz.prog 112 #[.agg c.cells, civ y mo d h mi s wk] w fun e w' => e = .returned (.bool (c.day mo d wk)) ∧ Below w.heap.size w w' := by
 obtain ⟨ci, ch, cd, cm, cw, ad, aw⟩ := c
 obtain ⟨f0, f1, f2, f3, f4⟩ := hf
 have F2 : Word cd := f2; have F3 : Word cm := f3; have F4 : Word cw := f4
 clear f0 f1 f2 f3 f4
 unfold Cr.cells civ
 go_enter Tryz.func112, Tryz.ntmps112
 go_wp2_with fail
 go_quiet ((go_at_call 152; exact Calls.quiet_of_same (cronHas' _ _ _ (by assumption))))
 cases ad <;> cases aw
 all_goals
  go_wp2_with fail
  refine (cronHas cm mo _ F3).mono ?_
  rintro e w' ⟨rfl, rfl⟩
  cases hm : hasB cm mo
  ·go_wp2_with fail
   go_ret
   exact ⟨by simp [Cr.day, hm], below_drewN (((Below.refl _ _).alloc (Nat.le_refl _) _).alloc (by simp) _) _⟩
  cases ha : hasB cd d <;> cases hb : hasB cw wk
  all_goals
   go_wp2_with fail
   go_ret
   exact ⟨by simp [Cr.day, hm, ha, hb], below_drewN (((Below.refl _ _).alloc (Nat.le_refl _) _).alloc (by simp) _) _⟩
def Cr.match (c : Cr) (mo d h mi wk : Int) : Bool := c.ok && c.fit mo d h mi wk
end Go.Proofs.YtoidcbpcnikejaaGreatDoor
namespace G
def firstUnder (p : Nat → Bool) : Nat → Option Nat
 | 0 => none
 | k + 1 => match firstUnder p k with | some i => some i | none => if p k then some k else none
theorem under_none {p : Nat → Bool} : ∀ {n : Nat}, firstUnder p n = none → ∀ k, k < n → p k = false
 | 0, _, k, hk => by omega
 | n + 1, h, k, hk => by
  unfold firstUnder at h
  cases hn : firstUnder p n with
  | some i => rw [hn] at h; cases h
  | none =>
   rw [hn] at h
   simp only at h
   rcases Nat.lt_succ_iff_lt_or_eq.1 hk with c | c
   ·exact under_none hn k c
   subst c
   cases hp : p k
   ·rfl
   rw [hp] at h; cases h
theorem under_some {p : Nat → Bool} : ∀ {n i : Nat}, firstUnder p n = some i → i < n ∧ p i = true ∧ ∀ k, k < i → p k = false
 | 0, i, h => by cases h
 | n + 1, i, h => by
  unfold firstUnder at h
  cases hn : firstUnder p n with
  | some i' =>
   rw [hn] at h; cases h
   obtain ⟨h1, h2, h3⟩ := under_some hn
   exact ⟨by omega, h2, h3⟩
  | none =>
   rw [hn] at h
   simp only at h
   cases hp : p n
   ·rw [hp] at h; cases h
   rw [hp] at h; cases h
   exact ⟨by omega, hp, fun k hk => under_none hn k hk⟩
theorem under_is {p : Nat → Bool} {n i : Nat} (hi : i < n) (hp : p i = true) (h : ∀ k, k < i → p k = false) : firstUnder p n = some i := by
 cases hn : firstUnder p n with
 | none => rw [under_none hn i hi] at hp; cases hp
 | some j =>
  obtain ⟨_, h2, h3⟩ := under_some hn
  rcases Nat.lt_trichotomy i j with c | c | c
  ·rw [h3 i c] at hp; cases hp
  ·rw [c]
  rw [h j c] at h2; cases h2
theorem under_all {p : Nat → Bool} {n : Nat} (h : ∀ k, k < n → p k = false) : firstUnder p n = none := by
 cases hn : firstUnder p n with
 | none => rfl
 | some j =>
  obtain ⟨h1, h2, _⟩ := under_some hn
  rw [h j h1] at h2; cases h2
def minOf (side : Int) (k : Nat) : Int := if side < 0 then 1439 - k else k
end G
namespace Go.Proofs.YtoidcbpcnikejaaGreatDoor
open Go.RowKit
def Cr.minB (c : Cr) (at0 sec side : Int) (k : Nat) : Bool := hasB c.h (G.minOf side k / 60) && hasB c.mi (G.minOf side k % 60) && (if side < 0 then decide (at0 + 60 * G.minOf side k ≤ sec) else decide (sec < at0 + 60 * G.minOf side k))
def Cr.inDay (c : Cr) (at0 sec side : Int) : Option Int := (G.firstUnder (c.minB at0 sec side) 1440).map fun k => at0 + 60 * G.minOf side k
def foundV (o : Option Int) : Value := match o with | none => .tuple #[.int .i64 0, .bool false] | some n => .tuple #[.int .i64 n, .bool true]
theorem cronWithinUp (c : Cr) (hf : c.fits) (at0 sec : Int) (w : World) (a0 : -1000000000000 ≤ at0) (a1 : at0 ≤ 1000000000000) :
  Calls Tryz.prog 113 #[.agg c.cells, .int .i64 at0, .int .i64 sec, .int .i64 1] w fun e w' => e = .returned (foundV (c.inDay at0 sec 1)) ∧ Below w.heap.size w w' := by
 obtain ⟨ci, ch, cd, cm, cw, ad, aw⟩ := c
 have F0 : Word ci := hf.1; have F1 : Word ch := hf.2.1
 clear hf
 have HB := J ((Below.refl w.heap.size w).alloc (Nat.le_refl _) (.cells (Cr.cells ⟨ci, ch, cd, cm, cw, ad, aw⟩) 92))
 have HX := J (G.At.made w 92 (Cr.cells ⟨ci, ch, cd, cm, cw, ad, aw⟩))
 have x0 : (w.alloc (.cells (Cr.cells ⟨ci, ch, cd, cm, cw, ad, aw⟩) 92)).cell? ⟨w.heap.size, 0, none⟩ = some (.int .u64 (ci : Int)) := HX.u.here (i := 0) rfl
 have x1 : (w.alloc (.cells (Cr.cells ⟨ci, ch, cd, cm, cw, ad, aw⟩) 92)).cell? ⟨w.heap.size, 1, none⟩ = some (.int .u64 (ch : Int)) := HX.u.here (i := 1) rfl
 go_enter Tryz.func113, Tryz.ntmps113
 go_wp2_with fail
 generalize w.alloc (.cells (Cr.cells ⟨ci, ch, cd, cm, cw, ad, aw⟩) 92) = W at HB x0 x1 ⊢
 go_loop [13] (fun i => ∃ k : Nat, k ≤ 1440 ∧ i = .int .i64 k ∧ Hid (∀ q, q < k → Cr.minB ⟨ci, ch, cd, cm, cw, ad, aw⟩ at0 sec 1 q = false)) (fun i => 1440 - (intOf i).toNat)
 case atStart => exact ⟨0, by omega, rfl, J (fun q hq => by omega)⟩
 obtain ⟨k, hk, rfl, HN⟩ := hrel
 by_cases hlt : k < 1440
 ·have i0 : (0 : Int) ≤ (k : Int) := by omega
  have i1 : (k : Int) < 1440 := by omega
  have hw0 : IntKind.i64.wrap (1439 - (k : Int)) = 1439 - (k : Int) := IntWalk.i64_in _ (by omega)
  go_upto_region 7 with fail
  obtain ⟨m, hm⟩ : ∃ m, Hid ((k : Int) = m) := ⟨_, J rfl⟩
  rw [hm.u]
  have m0 : 0 ≤ m := by have := hm.u; omega
  have m1 : m < 1440 := by have := hm.u; omega
  have HMin := J (show Cr.minB ⟨ci, ch, cd, cm, cw, ad, aw⟩ at0 sec 1 k = (hasB ch (m / 60) && hasB ci (m % 60) && decide (sec < at0 + 60 * m)) by unfold Cr.minB G.minOf; rw [← hm.u]; rfl)
  have HYes := J (fun (h : Cr.minB ⟨ci, ch, cd, cm, cw, ad, aw⟩ at0 sec 1 k = true) => (show Cr.inDay ⟨ci, ch, cd, cm, cw, ad, aw⟩ at0 sec 1 = some (at0 + 60 * m) by unfold Cr.inDay; rw [G.under_is hlt h HN.u]; show some (at0 + 60 * G.minOf 1 k) = _; unfold G.minOf; rw [← hm.u]; rfl))
  have HNo := J (fun (h : Cr.minB ⟨ci, ch, cd, cm, cw, ad, aw⟩ at0 sec 1 k = false) => (show ∀ q, q < k + 1 → Cr.minB ⟨ci, ch, cd, cm, cw, ad, aw⟩ at0 sec 1 q = false from fun q hq => by
   rcases Nat.lt_succ_iff_lt_or_eq.1 hq with c | c
   ·exact HN.u q c
   rw [c]; exact h))
  have hw1 : IntKind.i64.wrap (60 * m) = 60 * m := IntWalk.i64_in _ (by omega)
  have hw2 : IntKind.i64.wrap (at0 + 60 * m) = at0 + 60 * m := IntWalk.i64_in _ (by omega)
  clear hw0
  go_wp2_with fail
  refine (cronHas ch (m / 60) _ F1).mono ?_
  rintro e w' ⟨rfl, rfl⟩
  cases h1 : hasB ch (m / 60)
  ·have HF := J (HNo.u (by rw [HMin.u, h1]; rfl))
   go_wp2_with fail
   go_round
   case rel => exact ⟨k + 1, by omega, by first | go_num | (rw [← hm.u]; go_num), HF⟩
   case measure => have := hm.u; simp [intOf]; omega
  go_wp2_with fail
  refine (cronHas ci (m % 60) _ F0).mono ?_
  rintro e w' ⟨rfl, rfl⟩
  cases h2 : hasB ci (m % 60)
  ·have HF := J (HNo.u (by rw [HMin.u, h1, h2]; rfl))
   go_wp2_with fail
   go_round
   case rel => exact ⟨k + 1, by omega, by first | go_num | (rw [← hm.u]; go_num), HF⟩
   case measure => have := hm.u; simp [intOf]; omega
  by_cases h3 : sec < at0 + 60 * m
  ·have HF := J (HYes.u (by rw [HMin.u, h1, h2, decide_eq_true h3]; rfl))
   go_wp2_with fail
   go_ret2
   exact ⟨by rw [HF.u] <;> rfl, HB.u⟩
  have h4 : at0 + 60 * m ≤ sec := by omega
  have HF := J (HNo.u (by rw [HMin.u, h1, h2, decide_eq_false h3]; rfl))
  clear h3
  go_wp2_with fail
  go_round
  case rel => exact ⟨k + 1, by omega, by first | go_num | (rw [← hm.u]; go_num), HF⟩
  case measure => have := hm.u; simp [intOf]; omega
 have hke : k = 1440 := by omega
 subst hke
 have HF := J (show Cr.inDay ⟨ci, ch, cd, cm, cw, ad, aw⟩ at0 sec 1 = none by unfold Cr.inDay; rw [G.under_all HN.u]; rfl)
 go_wp2_with fail
 go_ret2
 exact ⟨by rw [HF.u] <;> rfl, HB.u⟩
theorem cronWithinDn (c : Cr) (hf : c.fits) (at0 sec : Int) (w : World) (a0 : -1000000000000 ≤ at0) (a1 : at0 ≤ 1000000000000) :
  Calls Tryz.prog 113 #[.agg c.cells, .int .i64 at0, .int .i64 sec, .int .i64 (-1)] w fun e w' => e = .returned (foundV (c.inDay at0 sec (-1))) ∧ Below w.heap.size w w' := by
 obtain ⟨ci, ch, cd, cm, cw, ad, aw⟩ := c
 have F0 : Word ci := hf.1; have F1 : Word ch := hf.2.1
 clear hf
 have HB := J ((Below.refl w.heap.size w).alloc (Nat.le_refl _) (.cells (Cr.cells ⟨ci, ch, cd, cm, cw, ad, aw⟩) 92))
 have HX := J (G.At.made w 92 (Cr.cells ⟨ci, ch, cd, cm, cw, ad, aw⟩))
 have x0 : (w.alloc (.cells (Cr.cells ⟨ci, ch, cd, cm, cw, ad, aw⟩) 92)).cell? ⟨w.heap.size, 0, none⟩ = some (.int .u64 (ci : Int)) := HX.u.here (i := 0) rfl
 have x1 : (w.alloc (.cells (Cr.cells ⟨ci, ch, cd, cm, cw, ad, aw⟩) 92)).cell? ⟨w.heap.size, 1, none⟩ = some (.int .u64 (ch : Int)) := HX.u.here (i := 1) rfl
 go_enter Tryz.func113, Tryz.ntmps113
 go_wp2_with fail
 generalize w.alloc (.cells (Cr.cells ⟨ci, ch, cd, cm, cw, ad, aw⟩) 92) = W at HB x0 x1 ⊢
 go_loop [13] (fun i => ∃ k : Nat, k ≤ 1440 ∧ i = .int .i64 k ∧ Hid (∀ q, q < k → Cr.minB ⟨ci, ch, cd, cm, cw, ad, aw⟩ at0 sec (-1) q = false)) (fun i => 1440 - (intOf i).toNat)
 case atStart => exact ⟨0, by omega, rfl, J (fun q hq => by omega)⟩
 obtain ⟨k, hk, rfl, HN⟩ := hrel
 by_cases hlt : k < 1440
 ·have i0 : (0 : Int) ≤ (k : Int) := by omega
  have i1 : (k : Int) < 1440 := by omega
  have hw0 : IntKind.i64.wrap (1439 - (k : Int)) = 1439 - (k : Int) := IntWalk.i64_in _ (by omega)
  go_upto_region 7 with fail
  obtain ⟨m, hm⟩ : ∃ m, Hid ((1439 - (k : Int)) = m) := ⟨_, J rfl⟩
  rw [hm.u]
  have m0 : 0 ≤ m := by have := hm.u; omega
  have m1 : m < 1440 := by have := hm.u; omega
  have HMin := J (show Cr.minB ⟨ci, ch, cd, cm, cw, ad, aw⟩ at0 sec (-1) k = (hasB ch (m / 60) && hasB ci (m % 60) && decide (at0 + 60 * m ≤ sec)) by unfold Cr.minB G.minOf; rw [← hm.u]; rfl)
  have HYes := J (fun (h : Cr.minB ⟨ci, ch, cd, cm, cw, ad, aw⟩ at0 sec (-1) k = true) => (show Cr.inDay ⟨ci, ch, cd, cm, cw, ad, aw⟩ at0 sec (-1) = some (at0 + 60 * m) by unfold Cr.inDay; rw [G.under_is hlt h HN.u]; show some (at0 + 60 * G.minOf (-1) k) = _; unfold G.minOf; rw [← hm.u]; rfl))
  have HNo := J (fun (h : Cr.minB ⟨ci, ch, cd, cm, cw, ad, aw⟩ at0 sec (-1) k = false) => (show ∀ q, q < k + 1 → Cr.minB ⟨ci, ch, cd, cm, cw, ad, aw⟩ at0 sec (-1) q = false from fun q hq => by
   rcases Nat.lt_succ_iff_lt_or_eq.1 hq with c | c
   ·exact HN.u q c
   rw [c]; exact h))
  have hw1 : IntKind.i64.wrap (60 * m) = 60 * m := IntWalk.i64_in _ (by omega)
  have hw2 : IntKind.i64.wrap (at0 + 60 * m) = at0 + 60 * m := IntWalk.i64_in _ (by omega)
  clear hw0
  go_wp2_with fail
  refine (cronHas ch (m / 60) _ F1).mono ?_
  rintro e w' ⟨rfl, rfl⟩
  cases h1 : hasB ch (m / 60)
  ·have HF := J (HNo.u (by rw [HMin.u, h1]; rfl))
   go_wp2_with fail
   go_round
   case rel => exact ⟨k + 1, by omega, by first | go_num | (rw [← hm.u]; go_num), HF⟩
   case measure => have := hm.u; simp [intOf]; omega
  go_wp2_with fail
  refine (cronHas ci (m % 60) _ F0).mono ?_
  rintro e w' ⟨rfl, rfl⟩
  cases h2 : hasB ci (m % 60)
  ·have HF := J (HNo.u (by rw [HMin.u, h1, h2]; rfl))
   go_wp2_with fail
   go_round
   case rel => exact ⟨k + 1, by omega, by first | go_num | (rw [← hm.u]; go_num), HF⟩
   case measure => have := hm.u; simp [intOf]; omega
  by_cases h3 : at0 + 60 * m ≤ sec
  ·have HF := J (HYes.u (by rw [HMin.u, h1, h2, decide_eq_true h3]; rfl))
   go_wp2_with fail
   go_ret2
   exact ⟨by rw [HF.u] <;> rfl, HB.u⟩
  have h4 : sec < at0 + 60 * m := by omega
  have HF := J (HNo.u (by rw [HMin.u, h1, h2, decide_eq_false h3]; rfl))
  clear h3
  go_wp2_with fail
  go_round
  case rel => exact ⟨k + 1, by omega, by first | go_num | (rw [← hm.u]; go_num), HF⟩
  case measure => have := hm.u; simp [intOf]; omega
 have hke : k = 1440 := by omega
 subst hke
 have HF := J (show Cr.inDay ⟨ci, ch, cd, cm, cw, ad, aw⟩ at0 sec (-1) = none by unfold Cr.inDay; rw [G.under_all HN.u]; rfl)
 go_wp2_with fail
 go_ret2
 exact ⟨by rw [HF.u] <;> rfl, HB.u⟩
open Go.RowKit
def clampT (n : Int) : Int := min (max n (-100000000000)) 100000000000
def Cr.dayFit (c : Cr) (shift at0 : Int) : Bool := c.day (G.moOf ((clampT (at0 + 43200) + 60 * shift) / 86400)) (G.dyOf ((clampT (at0 + 43200) + 60 * shift) / 86400)) (((clampT (at0 + 43200) + 60 * shift) / 86400 + 4) % 7)
def dayStart (sec shift : Int) : Int := sec - (sec + 60 * shift) % 86400
def dayAt (sec shift side : Int) (i : Nat) : Int := dayStart sec shift + side * i * 86400
def Cr.hit (c : Cr) (sec shift side : Int) (i : Nat) : Bool := c.dayFit shift (dayAt sec shift side i) && (c.inDay (dayAt sec shift side i) sec side).isSome
def inTime (o : Option Int) : Option Int := match o with | none => none | some n => if n < -100000000000 ∨ 100000000000 < n then none else some n
def Cr.seekO (c : Cr) (sec shift side : Int) : Option Int := match G.firstUnder (c.hit sec shift side) 3001 with | none => none | some i => inTime (c.inDay (dayAt sec shift side i) sec side)
def Cr.seekE (c : Cr) (sec shift : Int) : Int := if c.ok then (if okTime sec shift then 0 else 1) else 1
def Cr.seekV (c : Cr) (sec shift side : Int) : Value := if c.ok = true ∧ okTime sec shift then (match c.seekO sec shift side with | none => .tuple #[.int .i64 0, .bool false, .int .i64 0] | some n => .tuple #[.int .i64 n, .bool true, .int .i64 0]) else .tuple #[.int .i64 0, .bool false, .int .i64 1]
theorem rest_parts (t : Int) : 0 ≤ t % 86400 / 3600 ∧ t % 86400 / 3600 ≤ 23 ∧ 0 ≤ t % 86400 / 60 % 60 ∧ t % 86400 / 60 % 60 ≤ 59 ∧ 0 ≤ t % 86400 % 60 ∧ t % 86400 % 60 ≤ 59 ∧ t % 86400 / 3600 * 3600 + t % 86400 / 60 % 60 * 60 + t % 86400 % 60 = t % 86400 := by omega
theorem cronSeekUp (c : Cr) (hf : c.fits) (sec shift : Int) (w : World) :
  Calls Tryz.prog 74 #[.agg c.cells, .int .i64 sec, .int .i64 shift, .int .i64 1] w fun e w' => e = .returned (c.seekV sec shift 1) ∧ Below w.heap.size w w' := by
 obtain ⟨ci, ch, cd, cm, cw, ad, aw⟩ := c
 have HC := J hf
 have HB0 := J ((Below.refl w.heap.size w).alloc (Nat.le_refl _) (.cells (Cr.cells ⟨ci, ch, cd, cm, cw, ad, aw⟩) 92))
 have HX0 := J (G.At.made w 92 (Cr.cells ⟨ci, ch, cd, cm, cw, ad, aw⟩))
 clear hf
 cases hok : Cr.ok ⟨ci, ch, cd, cm, cw, ad, aw⟩
 ·have HV := J (show Cr.seekV ⟨ci, ch, cd, cm, cw, ad, aw⟩ sec shift 1 = .tuple #[.int .i64 0, .bool false, .int .i64 1] by unfold Cr.seekV; rw [if_neg (by rw [hok]; simp)])
  have he : Cr.err ⟨ci, ch, cd, cm, cw, ad, aw⟩ = 1 := Cr.err_no hok
  clear hok
  unfold Cr.cells
  go_enter Tryz.func74, Tryz.ntmps74
  go_wp2_with fail
  refine (cronCheck ⟨ci, ch, cd, cm, cw, ad, aw⟩ HC.u _).mono ?_
  rintro e w1 ⟨rfl, hb1⟩
  have HF := J (HB0.u.trans (hb1.mono HB0.u.size))
  rw [he]
  clear hb1
  go_wp2_with fail
  go_ret3
  exact ⟨by rw [HV.u] <;> rfl, HF.u⟩
 have he : Cr.err ⟨ci, ch, cd, cm, cw, ad, aw⟩ = 0 := Cr.err_yes hok
 by_cases hot : okTime sec shift
 case neg =>
  have HV := J (show Cr.seekV ⟨ci, ch, cd, cm, cw, ad, aw⟩ sec shift 1 = .tuple #[.int .i64 0, .bool false, .int .i64 1] by unfold Cr.seekV; rw [if_neg (fun h => hot h.2)])
  unfold Cr.cells
  go_enter Tryz.func74, Tryz.ntmps74
  go_wp2_with fail
  refine (cronCheck ⟨ci, ch, cd, cm, cw, ad, aw⟩ HC.u _).mono ?_
  rintro e w1 ⟨rfl, hb1⟩
  rw [he]
  have HB1 := J (HB0.u.trans (hb1.mono HB0.u.size))
  clear hb1 hok
  go_wp2_with fail
  refine (civOf_no sec shift _ hot).mono ?_
  rintro e w2 ⟨rfl, hb2⟩
  have HF := J ((HB1.u.trans (hb2.mono HB1.u.size)).alloc (by have := HB1.u.size; have := hb2.size; omega) (.cells #[.int .i64 0, .int .i64 0, .int .i64 0, .int .i64 0, .int .i64 0, .int .i64 0, .int .i64 0] 86))
  clear hb2 hot
  unfold civZero
  go_wp2_with fail
  go_ret3
  exact ⟨by rw [HV.u] <;> rfl, HF.u⟩
 have HV := J (show Cr.seekV ⟨ci, ch, cd, cm, cw, ad, aw⟩ sec shift 1 = (match Cr.seekO ⟨ci, ch, cd, cm, cw, ad, aw⟩ sec shift 1 with | none => .tuple #[.int .i64 0, .bool false, .int .i64 0] | some n => .tuple #[.int .i64 n, .bool true, .int .i64 0]) by unfold Cr.seekV; rw [if_pos ⟨hok, hot⟩])
 have HOt := J hot
 obtain ⟨t0, t1, t2, t3⟩ := hot
 clear hok
 unfold Cr.cells
 go_enter Tryz.func74, Tryz.ntmps74
 go_wp2_with fail
 refine (cronCheck ⟨ci, ch, cd, cm, cw, ad, aw⟩ HC.u _).mono ?_
 rintro e w1 ⟨rfl, hb1⟩
 rw [he]
 have HB1 := J (HB0.u.trans (hb1.mono HB0.u.size))
 have HX1 := J (HX0.u.below hb1 HX0.u.inside)
 clear hb1 he HB0 HX0
 go_wp2_with fail
 refine (civOf_yes sec shift _ HOt.u).mono ?_
 rintro e w2 ⟨rfl, hb2⟩
 have HB2 := J (HB1.u.trans (hb2.mono HB1.u.size))
 have HX2 := J (HX1.u.below hb2 HX1.u.inside)
 clear hb2
 unfold civAgg
 obtain ⟨h0, h1, m0, m1, s0, s1, hsum⟩ := rest_parts (sec + 60 * shift)
 have hst : dayStart sec shift = sec - (sec + 60 * shift) % 86400 := rfl
 generalize (sec + 60 * shift) % 86400 / 3600 = hh at h0 h1 hsum ⊢
 generalize (sec + 60 * shift) % 86400 / 60 % 60 = hm at m0 m1 hsum ⊢
 generalize (sec + 60 * shift) % 86400 % 60 = hs at s0 s1 hsum ⊢
 have q1 : IntKind.i64.wrap (hh * 3600) = hh * 3600 := IntWalk.i64_in _ (by omega)
 have q2 : IntKind.i64.wrap (sec - hh * 3600) = sec - hh * 3600 := IntWalk.i64_in _ (by omega)
 have q3 : IntKind.i64.wrap (hm * 60) = hm * 60 := IntWalk.i64_in _ (by omega)
 have q4 : IntKind.i64.wrap (sec - hh * 3600 - hm * 60) = sec - hh * 3600 - hm * 60 := IntWalk.i64_in _ (by omega)
 have q5 : IntKind.i64.wrap (sec - hh * 3600 - hm * 60 - hs) = sec - hh * 3600 - hm * 60 - hs := IntWalk.i64_in _ (by omega)
 obtain ⟨st, hSt⟩ : ∃ st, Hid (dayStart sec shift = st) := ⟨_, J rfl⟩
 have q6 : sec - hh * 3600 - hm * 60 - hs = st := by rw [← hSt.u, hst, ← hsum]; omega
 have st0 : -100000100000 ≤ st := by omega
 have st1 : st ≤ 100000000000 := by omega
 go_upto_region 8 with fail
 try rw [q6]
 clear q1 q2 q3 q4 q5 q6 h0 h1 m0 m1 s0 s1 hsum hst
 have HB3 := J (HB2.u.alloc HB2.u.size (.cells #[.int .i64 (G.yrOf ((sec + 60 * shift) / 86400)), .int .i64 (G.moOf ((sec + 60 * shift) / 86400)), .int .i64 (G.dyOf ((sec + 60 * shift) / 86400)), .int .i64 hh, .int .i64 hm, .int .i64 hs, .int .i64 (((sec + 60 * shift) / 86400 + 4) % 7)] 86))
 have HX3 := J (HX2.u.alloc (.cells #[.int .i64 (G.yrOf ((sec + 60 * shift) / 86400)), .int .i64 (G.moOf ((sec + 60 * shift) / 86400)), .int .i64 (G.dyOf ((sec + 60 * shift) / 86400)), .int .i64 hh, .int .i64 hm, .int .i64 hs, .int .i64 (((sec + 60 * shift) / 86400 + 4) % 7)] 86))
 clear HB1 HB2 HX1 HX2
 go_wp2_with fail
 generalize w2.alloc (.cells #[.int .i64 (G.yrOf ((sec + 60 * shift) / 86400)), .int .i64 (G.moOf ((sec + 60 * shift) / 86400)), .int .i64 (G.dyOf ((sec + 60 * shift) / 86400)), .int .i64 hh, .int .i64 hm, .int .i64 hs, .int .i64 (((sec + 60 * shift) / 86400 + 4) % 7)] 86) = W at HB3 HX3 ⊢
 go_loopw [48] (fun x wr => ∃ i : Nat, i ≤ 3001 ∧ x = .int .i64 i ∧ Hid (∀ q, q < i → Cr.hit ⟨ci, ch, cd, cm, cw, ad, aw⟩ sec shift 1 q = false) ∧ Hid (Below W.heap.size W wr)) (fun x _ => 3001 - (intOf x).toNat)
 case atStart => exact ⟨0, by omega, rfl, J (fun q hq => by omega), J (Below.refl _ _)⟩
 obtain ⟨i, hi, rfl, HN, HB⟩ := hrel
 by_cases hlt : i < 3001
 ·have i0 : (0 : Int) ≤ (i : Int) := by omega
  have i1 : (i : Int) < 3001 := by omega
  have q1 : IntKind.i64.wrap (1 * (i : Int)) = 1 * (i : Int) := IntWalk.i64_in _ (by omega)
  have q2 : IntKind.i64.wrap (1 * (i : Int) * 86400) = 1 * (i : Int) * 86400 := IntWalk.i64_in _ (by omega)
  have q3 : IntKind.i64.wrap (st + 1 * (i : Int) * 86400) = st + 1 * (i : Int) * 86400 := IntWalk.i64_in _ (by omega)
  go_upto_region 12 with fail
  obtain ⟨a, ha⟩ : ∃ a, Hid (st + (i : Int) * 86400 = a) := ⟨_, J rfl⟩
  rw [ha.u]
  have HDa := J (show dayAt sec shift 1 i = a by unfold dayAt; rw [hSt.u, ← ha.u]; omega)
  have a0 : -1000000000000 ≤ a := by have := ha.u; omega
  have a1 : a ≤ 1000000000000 := by have := ha.u; omega
  have q4 : IntKind.i64.wrap (a + 43200) = a + 43200 := IntWalk.i64_in _ (by omega)
  have HNo := J (fun (h : Cr.hit ⟨ci, ch, cd, cm, cw, ad, aw⟩ sec shift 1 i = false) => (show ∀ q, q < i + 1 → Cr.hit ⟨ci, ch, cd, cm, cw, ad, aw⟩ sec shift 1 q = false from fun q hq => by
   rcases Nat.lt_succ_iff_lt_or_eq.1 hq with c | c
   ·exact HN.u q c
   rw [c]; exact h))
  have HYes := J (fun (h : Cr.hit ⟨ci, ch, cd, cm, cw, ad, aw⟩ sec shift 1 i = true) => (show Cr.seekO ⟨ci, ch, cd, cm, cw, ad, aw⟩ sec shift 1 = inTime (Cr.inDay ⟨ci, ch, cd, cm, cw, ad, aw⟩ a sec 1) by unfold Cr.seekO; rw [G.under_is hlt h HN.u]; simp only [HDa.u]))
  have HHit := J (show Cr.hit ⟨ci, ch, cd, cm, cw, ad, aw⟩ sec shift 1 i = (Cr.dayFit ⟨ci, ch, cd, cm, cw, ad, aw⟩ shift a && (Cr.inDay ⟨ci, ch, cd, cm, cw, ad, aw⟩ a sec 1).isSome) by unfold Cr.hit; rw [HDa.u])
  clear q1 q2 q3
  go_cut [17] (fun s17 wx => s17 = .int .i64 (clampT (a + 43200)) ∧ wr = wx)
  case first =>
   by_cases c1 : a + 43200 < -100000000000
   ·go_wp2_with fail
    go_meet
    exact ⟨by rw [show clampT (a + 43200) = -100000000000 by unfold clampT; omega], rfl⟩
   by_cases c2 : 100000000000 < a + 43200
   ·have c3 : -100000000000 ≤ a + 43200 := by omega
    clear c1
    go_wp2_with fail
    go_meet
    exact ⟨by rw [show clampT (a + 43200) = 100000000000 by unfold clampT; omega], rfl⟩
   have c3 : -100000000000 ≤ a + 43200 := by omega
   have c4 : a + 43200 ≤ 100000000000 := by omega
   clear c1 c2
   go_wp2_with fail
   go_meet
   exact ⟨by rw [show clampT (a + 43200) = a + 43200 by unfold clampT; omega], rfl⟩
  case rest =>
  obtain ⟨rfl, rfl⟩ := hcut
  have HDf := J (show Cr.dayFit ⟨ci, ch, cd, cm, cw, ad, aw⟩ shift a = Cr.day ⟨ci, ch, cd, cm, cw, ad, aw⟩ (G.moOf ((clampT (a + 43200) + 60 * shift) / 86400)) (G.dyOf ((clampT (a + 43200) + 60 * shift) / 86400)) (((clampT (a + 43200) + 60 * shift) / 86400 + 4) % 7) from rfl)
  have HOn := J (show okTime (clampT (a + 43200)) shift from ⟨by unfold clampT; omega, by unfold clampT; omega, t2, t3⟩)
  generalize clampT (a + 43200) = nn at HDf HOn ⊢
  clear q4
  go_wp2_with fail
  refine (civOf_yes nn shift _ HOn.u).mono ?_
  rintro e w4 ⟨rfl, hb4⟩
  have HB4 := J (HB.u.trans (hb4.mono HB.u.size))
  clear hb4
  unfold civAgg
  generalize (nn + 60 * shift) % 86400 / 3600 = gh
  generalize (nn + 60 * shift) % 86400 / 60 % 60 = gm
  generalize (nn + 60 * shift) % 86400 % 60 = gs
  generalize (nn + 60 * shift) / 86400 = D at HDf ⊢
  have HB5 := J (HB4.u.alloc HB4.u.size (.cells #[.int .i64 (G.yrOf D), .int .i64 (G.moOf D), .int .i64 (G.dyOf D), .int .i64 gh, .int .i64 gm, .int .i64 gs, .int .i64 ((D + 4) % 7)] 86))
  have HX4 := J (HX3.u.below HB4.u HX3.u.inside)
  have hxl := HX4.u.inside
  have x0 := HX4.u.here (i := 0) rfl
  have x1 := HX4.u.here (i := 1) rfl
  have x2 := HX4.u.here (i := 2) rfl
  have x3 := HX4.u.here (i := 3) rfl
  have x4 := HX4.u.here (i := 4) rfl
  have x5 := HX4.u.here (i := 5) rfl
  have x6 := HX4.u.here (i := 6) rfl
  go_wp2_with fail
  refine (cronDay ⟨ci, ch, cd, cm, cw, ad, aw⟩ HC.u _ _ _ _ _ _ _ _).mono ?_
  rintro e w5 ⟨rfl, hb5⟩
  have HB6 := J (HB5.u.trans (hb5.mono HB5.u.size))
  clear hb5 x0 x1 x2 x3 x4 x5 x6 hxl HB4 HB5 HX4
  cases hday : Cr.day ⟨ci, ch, cd, cm, cw, ad, aw⟩ (G.moOf D) (G.dyOf D) ((D + 4) % 7)
  ·have HF := J (HNo.u (by rw [HHit.u, HDf.u, hday]; rfl))
   clear hday
   go_wp2_with fail
   go_roundw
   case rel => exact ⟨i + 1, by omega, by go_num, HF, HB6⟩
   case measure => simp [intOf]; omega
  have HX5 := J (HX3.u.below HB6.u HX3.u.inside)
  have hxl := HX5.u.inside
  have x0 := HX5.u.here (i := 0) rfl
  have x1 := HX5.u.here (i := 1) rfl
  have x2 := HX5.u.here (i := 2) rfl
  have x3 := HX5.u.here (i := 3) rfl
  have x4 := HX5.u.here (i := 4) rfl
  have x5 := HX5.u.here (i := 5) rfl
  have x6 := HX5.u.here (i := 6) rfl
  have HHit2 := J (show Cr.hit ⟨ci, ch, cd, cm, cw, ad, aw⟩ sec shift 1 i = (Cr.inDay ⟨ci, ch, cd, cm, cw, ad, aw⟩ a sec 1).isSome by rw [HHit.u, HDf.u, hday]; rfl)
  clear hday
  go_wp2_with fail
  refine (cronWithinUp ⟨ci, ch, cd, cm, cw, ad, aw⟩ HC.u a sec _ a0 a1).mono ?_
  rintro e w6 ⟨rfl, hb6⟩
  have HB7 := J (HB6.u.trans (hb6.mono HB6.u.size))
  have HBe := J (HB3.u.trans (HB7.u.mono HB3.u.size))
  clear hb6 x0 x1 x2 x3 x4 x5 x6 hxl
  cases hin : Cr.inDay ⟨ci, ch, cd, cm, cw, ad, aw⟩ a sec 1 with
  | none =>
   have HF := J (HNo.u (by rw [HHit2.u, hin]; rfl))
   unfold foundV
   clear hin
   go_wp2_with fail
   go_roundw
   case rel => exact ⟨i + 1, by omega, by go_num, HF, HB7⟩
   case measure => simp [intOf]; omega
  | some n =>
   have HF0 := J (HYes.u (by rw [HHit2.u, hin]; rfl))
   unfold foundV
   by_cases r1 : n < -100000000000
   ·have HF := J (show Cr.seekV ⟨ci, ch, cd, cm, cw, ad, aw⟩ sec shift 1 = .tuple #[.int .i64 0, .bool false, .int .i64 0] by rw [HV.u, HF0.u, hin]; unfold inTime; simp only; rw [if_pos (.inl r1)])
    clear hin
    go_wp2_with fail
    go_ret3
    exact ⟨by rw [HF.u] <;> rfl, HBe.u⟩
   have r1' : -100000000000 ≤ n := by omega
   by_cases r2 : 100000000000 < n
   ·have HF := J (show Cr.seekV ⟨ci, ch, cd, cm, cw, ad, aw⟩ sec shift 1 = .tuple #[.int .i64 0, .bool false, .int .i64 0] by rw [HV.u, HF0.u, hin]; unfold inTime; simp only; rw [if_pos (.inr r2)])
    clear hin r1
    go_wp2_with fail
    go_ret3
    exact ⟨by rw [HF.u] <;> rfl, HBe.u⟩
   have r2' : n ≤ 100000000000 := by omega
   have HF := J (show Cr.seekV ⟨ci, ch, cd, cm, cw, ad, aw⟩ sec shift 1 = .tuple #[.int .i64 n, .bool true, .int .i64 0] by rw [HV.u, HF0.u, hin]; unfold inTime; simp only; rw [if_neg (by omega)])
   clear hin r1 r2
   go_wp2_with fail
   go_ret3
   exact ⟨by rw [HF.u] <;> rfl, HBe.u⟩
 have hie : i = 3001 := by omega
 subst hie
 have HF := J (show Cr.seekV ⟨ci, ch, cd, cm, cw, ad, aw⟩ sec shift 1 = .tuple #[.int .i64 0, .bool false, .int .i64 0] by rw [HV.u]; unfold Cr.seekO; rw [G.under_all HN.u])
 have HBe := J (HB3.u.trans (HB.u.mono HB3.u.size))
 go_wp2_with fail
 go_ret3
 exact ⟨by rw [HF.u] <;> rfl, HBe.u⟩
theorem cronSeekDn (c : Cr) (hf : c.fits) (sec shift : Int) (w : World) :
  Calls Tryz.prog 74 #[.agg c.cells, .int .i64 sec, .int .i64 shift, .int .i64 (-1)] w fun e w' => e = .returned (c.seekV sec shift (-1)) ∧ Below w.heap.size w w' := by
 obtain ⟨ci, ch, cd, cm, cw, ad, aw⟩ := c
 have HC := J hf
 have HB0 := J ((Below.refl w.heap.size w).alloc (Nat.le_refl _) (.cells (Cr.cells ⟨ci, ch, cd, cm, cw, ad, aw⟩) 92))
 have HX0 := J (G.At.made w 92 (Cr.cells ⟨ci, ch, cd, cm, cw, ad, aw⟩))
 clear hf
 cases hok : Cr.ok ⟨ci, ch, cd, cm, cw, ad, aw⟩
 ·have HV := J (show Cr.seekV ⟨ci, ch, cd, cm, cw, ad, aw⟩ sec shift (-1) = .tuple #[.int .i64 0, .bool false, .int .i64 1] by unfold Cr.seekV; rw [if_neg (by rw [hok]; simp)])
  have he : Cr.err ⟨ci, ch, cd, cm, cw, ad, aw⟩ = 1 := Cr.err_no hok
  clear hok
  unfold Cr.cells
  go_enter Tryz.func74, Tryz.ntmps74
  go_wp2_with fail
  refine (cronCheck ⟨ci, ch, cd, cm, cw, ad, aw⟩ HC.u _).mono ?_
  rintro e w1 ⟨rfl, hb1⟩
  have HF := J (HB0.u.trans (hb1.mono HB0.u.size))
  rw [he]
  clear hb1
  go_wp2_with fail
  go_ret3
  exact ⟨by rw [HV.u] <;> rfl, HF.u⟩
 have he : Cr.err ⟨ci, ch, cd, cm, cw, ad, aw⟩ = 0 := Cr.err_yes hok
 by_cases hot : okTime sec shift
 case neg =>
  have HV := J (show Cr.seekV ⟨ci, ch, cd, cm, cw, ad, aw⟩ sec shift (-1) = .tuple #[.int .i64 0, .bool false, .int .i64 1] by unfold Cr.seekV; rw [if_neg (fun h => hot h.2)])
  unfold Cr.cells
  go_enter Tryz.func74, Tryz.ntmps74
  go_wp2_with fail
  refine (cronCheck ⟨ci, ch, cd, cm, cw, ad, aw⟩ HC.u _).mono ?_
  rintro e w1 ⟨rfl, hb1⟩
  rw [he]
  have HB1 := J (HB0.u.trans (hb1.mono HB0.u.size))
  clear hb1 hok
  go_wp2_with fail
  refine (civOf_no sec shift _ hot).mono ?_
  rintro e w2 ⟨rfl, hb2⟩
  have HF := J ((HB1.u.trans (hb2.mono HB1.u.size)).alloc (by have := HB1.u.size; have := hb2.size; omega) (.cells #[.int .i64 0, .int .i64 0, .int .i64 0, .int .i64 0, .int .i64 0, .int .i64 0, .int .i64 0] 86))
  clear hb2 hot
  unfold civZero
  go_wp2_with fail
  go_ret3
  exact ⟨by rw [HV.u] <;> rfl, HF.u⟩
 have HV := J (show Cr.seekV ⟨ci, ch, cd, cm, cw, ad, aw⟩ sec shift (-1) = (match Cr.seekO ⟨ci, ch, cd, cm, cw, ad, aw⟩ sec shift (-1) with | none => .tuple #[.int .i64 0, .bool false, .int .i64 0] | some n => .tuple #[.int .i64 n, .bool true, .int .i64 0]) by unfold Cr.seekV; rw [if_pos ⟨hok, hot⟩])
 have HOt := J hot
 obtain ⟨t0, t1, t2, t3⟩ := hot
 clear hok
 unfold Cr.cells
 go_enter Tryz.func74, Tryz.ntmps74
 go_wp2_with fail
 refine (cronCheck ⟨ci, ch, cd, cm, cw, ad, aw⟩ HC.u _).mono ?_
 rintro e w1 ⟨rfl, hb1⟩
 rw [he]
 have HB1 := J (HB0.u.trans (hb1.mono HB0.u.size))
 have HX1 := J (HX0.u.below hb1 HX0.u.inside)
 clear hb1 he HB0 HX0
 go_wp2_with fail
 refine (civOf_yes sec shift _ HOt.u).mono ?_
 rintro e w2 ⟨rfl, hb2⟩
 have HB2 := J (HB1.u.trans (hb2.mono HB1.u.size))
 have HX2 := J (HX1.u.below hb2 HX1.u.inside)
 clear hb2
 unfold civAgg
 obtain ⟨h0, h1, m0, m1, s0, s1, hsum⟩ := rest_parts (sec + 60 * shift)
 have hst : dayStart sec shift = sec - (sec + 60 * shift) % 86400 := rfl
 generalize (sec + 60 * shift) % 86400 / 3600 = hh at h0 h1 hsum ⊢
 generalize (sec + 60 * shift) % 86400 / 60 % 60 = hm at m0 m1 hsum ⊢
 generalize (sec + 60 * shift) % 86400 % 60 = hs at s0 s1 hsum ⊢
 have q1 : IntKind.i64.wrap (hh * 3600) = hh * 3600 := IntWalk.i64_in _ (by omega)
 have q2 : IntKind.i64.wrap (sec - hh * 3600) = sec - hh * 3600 := IntWalk.i64_in _ (by omega)
 have q3 : IntKind.i64.wrap (hm * 60) = hm * 60 := IntWalk.i64_in _ (by omega)
 have q4 : IntKind.i64.wrap (sec - hh * 3600 - hm * 60) = sec - hh * 3600 - hm * 60 := IntWalk.i64_in _ (by omega)
 have q5 : IntKind.i64.wrap (sec - hh * 3600 - hm * 60 - hs) = sec - hh * 3600 - hm * 60 - hs := IntWalk.i64_in _ (by omega)
 obtain ⟨st, hSt⟩ : ∃ st, Hid (dayStart sec shift = st) := ⟨_, J rfl⟩
 have q6 : sec - hh * 3600 - hm * 60 - hs = st := by rw [← hSt.u, hst, ← hsum]; omega
 have st0 : -100000100000 ≤ st := by omega
 have st1 : st ≤ 100000000000 := by omega
 go_upto_region 8 with fail
 try rw [q6]
 clear q1 q2 q3 q4 q5 q6 h0 h1 m0 m1 s0 s1 hsum hst
 have HB3 := J (HB2.u.alloc HB2.u.size (.cells #[.int .i64 (G.yrOf ((sec + 60 * shift) / 86400)), .int .i64 (G.moOf ((sec + 60 * shift) / 86400)), .int .i64 (G.dyOf ((sec + 60 * shift) / 86400)), .int .i64 hh, .int .i64 hm, .int .i64 hs, .int .i64 (((sec + 60 * shift) / 86400 + 4) % 7)] 86))
 have HX3 := J (HX2.u.alloc (.cells #[.int .i64 (G.yrOf ((sec + 60 * shift) / 86400)), .int .i64 (G.moOf ((sec + 60 * shift) / 86400)), .int .i64 (G.dyOf ((sec + 60 * shift) / 86400)), .int .i64 hh, .int .i64 hm, .int .i64 hs, .int .i64 (((sec + 60 * shift) / 86400 + 4) % 7)] 86))
 clear HB1 HB2 HX1 HX2
 go_wp2_with fail
 generalize w2.alloc (.cells #[.int .i64 (G.yrOf ((sec + 60 * shift) / 86400)), .int .i64 (G.moOf ((sec + 60 * shift) / 86400)), .int .i64 (G.dyOf ((sec + 60 * shift) / 86400)), .int .i64 hh, .int .i64 hm, .int .i64 hs, .int .i64 (((sec + 60 * shift) / 86400 + 4) % 7)] 86) = W at HB3 HX3 ⊢
 go_loopw [48] (fun x wr => ∃ i : Nat, i ≤ 3001 ∧ x = .int .i64 i ∧ Hid (∀ q, q < i → Cr.hit ⟨ci, ch, cd, cm, cw, ad, aw⟩ sec shift (-1) q = false) ∧ Hid (Below W.heap.size W wr)) (fun x _ => 3001 - (intOf x).toNat)
 case atStart => exact ⟨0, by omega, rfl, J (fun q hq => by omega), J (Below.refl _ _)⟩
 obtain ⟨i, hi, rfl, HN, HB⟩ := hrel
 by_cases hlt : i < 3001
 ·have i0 : (0 : Int) ≤ (i : Int) := by omega
  have i1 : (i : Int) < 3001 := by omega
  have q1 : IntKind.i64.wrap ((-1) * (i : Int)) = (-1) * (i : Int) := IntWalk.i64_in _ (by omega)
  have q2 : IntKind.i64.wrap ((-1) * (i : Int) * 86400) = (-1) * (i : Int) * 86400 := IntWalk.i64_in _ (by omega)
  have q3 : IntKind.i64.wrap (st + (-1) * (i : Int) * 86400) = st + (-1) * (i : Int) * 86400 := IntWalk.i64_in _ (by omega)
  go_upto_region 12 with fail
  obtain ⟨a, ha⟩ : ∃ a, Hid (st + -(i : Int) * 86400 = a) := ⟨_, J rfl⟩
  rw [ha.u]
  have HDa := J (show dayAt sec shift (-1) i = a by unfold dayAt; rw [hSt.u, ← ha.u]; omega)
  have a0 : -1000000000000 ≤ a := by have := ha.u; omega
  have a1 : a ≤ 1000000000000 := by have := ha.u; omega
  have q4 : IntKind.i64.wrap (a + 43200) = a + 43200 := IntWalk.i64_in _ (by omega)
  have HNo := J (fun (h : Cr.hit ⟨ci, ch, cd, cm, cw, ad, aw⟩ sec shift (-1) i = false) => (show ∀ q, q < i + 1 → Cr.hit ⟨ci, ch, cd, cm, cw, ad, aw⟩ sec shift (-1) q = false from fun q hq => by
   rcases Nat.lt_succ_iff_lt_or_eq.1 hq with c | c
   ·exact HN.u q c
   rw [c]; exact h))
  have HYes := J (fun (h : Cr.hit ⟨ci, ch, cd, cm, cw, ad, aw⟩ sec shift (-1) i = true) => (show Cr.seekO ⟨ci, ch, cd, cm, cw, ad, aw⟩ sec shift (-1) = inTime (Cr.inDay ⟨ci, ch, cd, cm, cw, ad, aw⟩ a sec (-1)) by unfold Cr.seekO; rw [G.under_is hlt h HN.u]; simp only [HDa.u]))
  have HHit := J (show Cr.hit ⟨ci, ch, cd, cm, cw, ad, aw⟩ sec shift (-1) i = (Cr.dayFit ⟨ci, ch, cd, cm, cw, ad, aw⟩ shift a && (Cr.inDay ⟨ci, ch, cd, cm, cw, ad, aw⟩ a sec (-1)).isSome) by unfold Cr.hit; rw [HDa.u])
  clear q1 q2 q3
  go_cut [17] (fun s17 wx => s17 = .int .i64 (clampT (a + 43200)) ∧ wr = wx)
  case first =>
   by_cases c1 : a + 43200 < -100000000000
   ·go_wp2_with fail
    go_meet
    exact ⟨by rw [show clampT (a + 43200) = -100000000000 by unfold clampT; omega], rfl⟩
   by_cases c2 : 100000000000 < a + 43200
   ·have c3 : -100000000000 ≤ a + 43200 := by omega
    clear c1
    go_wp2_with fail
    go_meet
    exact ⟨by rw [show clampT (a + 43200) = 100000000000 by unfold clampT; omega], rfl⟩
   have c3 : -100000000000 ≤ a + 43200 := by omega
   have c4 : a + 43200 ≤ 100000000000 := by omega
   clear c1 c2
   go_wp2_with fail
   go_meet
   exact ⟨by rw [show clampT (a + 43200) = a + 43200 by unfold clampT; omega], rfl⟩
  case rest =>
  obtain ⟨rfl, rfl⟩ := hcut
  have HDf := J (show Cr.dayFit ⟨ci, ch, cd, cm, cw, ad, aw⟩ shift a = Cr.day ⟨ci, ch, cd, cm, cw, ad, aw⟩ (G.moOf ((clampT (a + 43200) + 60 * shift) / 86400)) (G.dyOf ((clampT (a + 43200) + 60 * shift) / 86400)) (((clampT (a + 43200) + 60 * shift) / 86400 + 4) % 7) from rfl)
  have HOn := J (show okTime (clampT (a + 43200)) shift from ⟨by unfold clampT; omega, by unfold clampT; omega, t2, t3⟩)
  generalize clampT (a + 43200) = nn at HDf HOn ⊢
  clear q4
  go_wp2_with fail
  refine (civOf_yes nn shift _ HOn.u).mono ?_
  rintro e w4 ⟨rfl, hb4⟩
  have HB4 := J (HB.u.trans (hb4.mono HB.u.size))
  clear hb4
  unfold civAgg
  generalize (nn + 60 * shift) % 86400 / 3600 = gh
  generalize (nn + 60 * shift) % 86400 / 60 % 60 = gm
  generalize (nn + 60 * shift) % 86400 % 60 = gs
  generalize (nn + 60 * shift) / 86400 = D at HDf ⊢
  have HB5 := J (HB4.u.alloc HB4.u.size (.cells #[.int .i64 (G.yrOf D), .int .i64 (G.moOf D), .int .i64 (G.dyOf D), .int .i64 gh, .int .i64 gm, .int .i64 gs, .int .i64 ((D + 4) % 7)] 86))
  have HX4 := J (HX3.u.below HB4.u HX3.u.inside)
  have hxl := HX4.u.inside
  have x0 := HX4.u.here (i := 0) rfl
  have x1 := HX4.u.here (i := 1) rfl
  have x2 := HX4.u.here (i := 2) rfl
  have x3 := HX4.u.here (i := 3) rfl
  have x4 := HX4.u.here (i := 4) rfl
  have x5 := HX4.u.here (i := 5) rfl
  have x6 := HX4.u.here (i := 6) rfl
  go_wp2_with fail
  refine (cronDay ⟨ci, ch, cd, cm, cw, ad, aw⟩ HC.u _ _ _ _ _ _ _ _).mono ?_
  rintro e w5 ⟨rfl, hb5⟩
  have HB6 := J (HB5.u.trans (hb5.mono HB5.u.size))
  clear hb5 x0 x1 x2 x3 x4 x5 x6 hxl HB4 HB5 HX4
  cases hday : Cr.day ⟨ci, ch, cd, cm, cw, ad, aw⟩ (G.moOf D) (G.dyOf D) ((D + 4) % 7)
  ·have HF := J (HNo.u (by rw [HHit.u, HDf.u, hday]; rfl))
   clear hday
   go_wp2_with fail
   go_roundw
   case rel => exact ⟨i + 1, by omega, by go_num, HF, HB6⟩
   case measure => simp [intOf]; omega
  have HX5 := J (HX3.u.below HB6.u HX3.u.inside)
  have hxl := HX5.u.inside
  have x0 := HX5.u.here (i := 0) rfl
  have x1 := HX5.u.here (i := 1) rfl
  have x2 := HX5.u.here (i := 2) rfl
  have x3 := HX5.u.here (i := 3) rfl
  have x4 := HX5.u.here (i := 4) rfl
  have x5 := HX5.u.here (i := 5) rfl
  have x6 := HX5.u.here (i := 6) rfl
  have HHit2 := J (show Cr.hit ⟨ci, ch, cd, cm, cw, ad, aw⟩ sec shift (-1) i = (Cr.inDay ⟨ci, ch, cd, cm, cw, ad, aw⟩ a sec (-1)).isSome by rw [HHit.u, HDf.u, hday]; rfl)
  clear hday
  go_wp2_with fail
  refine (cronWithinDn ⟨ci, ch, cd, cm, cw, ad, aw⟩ HC.u a sec _ a0 a1).mono ?_
  rintro e w6 ⟨rfl, hb6⟩
  have HB7 := J (HB6.u.trans (hb6.mono HB6.u.size))
  have HBe := J (HB3.u.trans (HB7.u.mono HB3.u.size))
  clear hb6 x0 x1 x2 x3 x4 x5 x6 hxl
  cases hin : Cr.inDay ⟨ci, ch, cd, cm, cw, ad, aw⟩ a sec (-1) with
  | none =>
   have HF := J (HNo.u (by rw [HHit2.u, hin]; rfl))
   unfold foundV
   clear hin
   go_wp2_with fail
   go_roundw
   case rel => exact ⟨i + 1, by omega, by go_num, HF, HB7⟩
   case measure => simp [intOf]; omega
  | some n =>
   have HF0 := J (HYes.u (by rw [HHit2.u, hin]; rfl))
   unfold foundV
   by_cases r1 : n < -100000000000
   ·have HF := J (show Cr.seekV ⟨ci, ch, cd, cm, cw, ad, aw⟩ sec shift (-1) = .tuple #[.int .i64 0, .bool false, .int .i64 0] by rw [HV.u, HF0.u, hin]; unfold inTime; simp only; rw [if_pos (.inl r1)])
    clear hin
    go_wp2_with fail
    go_ret3
    exact ⟨by rw [HF.u] <;> rfl, HBe.u⟩
   have r1' : -100000000000 ≤ n := by omega
   by_cases r2 : 100000000000 < n
   ·have HF := J (show Cr.seekV ⟨ci, ch, cd, cm, cw, ad, aw⟩ sec shift (-1) = .tuple #[.int .i64 0, .bool false, .int .i64 0] by rw [HV.u, HF0.u, hin]; unfold inTime; simp only; rw [if_pos (.inr r2)])
    clear hin r1
    go_wp2_with fail
    go_ret3
    exact ⟨by rw [HF.u] <;> rfl, HBe.u⟩
   have r2' : n ≤ 100000000000 := by omega
   have HF := J (show Cr.seekV ⟨ci, ch, cd, cm, cw, ad, aw⟩ sec shift (-1) = .tuple #[.int .i64 n, .bool true, .int .i64 0] by rw [HV.u, HF0.u, hin]; unfold inTime; simp only; rw [if_neg (by omega)])
   clear hin r1 r2
   go_wp2_with fail
   go_ret3
   exact ⟨by rw [HF.u] <;> rfl, HBe.u⟩
 have hie : i = 3001 := by omega
 subst hie
 have HF := J (show Cr.seekV ⟨ci, ch, cd, cm, cw, ad, aw⟩ sec shift (-1) = .tuple #[.int .i64 0, .bool false, .int .i64 0] by rw [HV.u]; unfold Cr.seekO; rw [G.under_all HN.u])
 have HBe := J (HB3.u.trans (HB.u.mono HB3.u.size))
 go_wp2_with fail
 go_ret3
 exact ⟨by rw [HF.u] <;> rfl, HBe.u⟩
open Go.RowKit
def Cr.seekN (c : Cr) (sec shift side : Int) : Int := if c.ok = true ∧ okTime sec shift then (c.seekO sec shift side).getD 0 else 0
def Cr.seekB (c : Cr) (sec shift side : Int) : Bool := if c.ok = true ∧ okTime sec shift then (c.seekO sec shift side).isSome else false
theorem Cr.seekV_is (c : Cr) (sec shift side : Int) : c.seekV sec shift side = .tuple #[.int .i64 (c.seekN sec shift side), .bool (c.seekB sec shift side), .int .i64 (c.seekE sec shift)] := by
 unfold Cr.seekV Cr.seekN Cr.seekB Cr.seekE
 by_cases h : c.ok = true ∧ okTime sec shift
 ·rw [if_pos h, if_pos h, if_pos h, if_pos h.1, if_pos h.2]
  cases c.seekO sec shift side <;> rfl
 rw [if_neg h, if_neg h, if_neg h]
 by_cases h1 : c.ok = true
 ·rw [if_pos h1, if_neg (fun h2 => h ⟨h1, h2⟩)]
 rw [if_neg h1]
theorem cronNext (c : Cr) (hf : c.fits) (sec shift : Int) (w : World) :
  Calls Tryz.prog 53 #[.agg c.cells, .int .i64 sec, .int .i64 shift] w fun e w' => e = .returned (.tuple #[.int .i64 (c.seekN sec shift 1), .bool (c.seekB sec shift 1), .int .i64 (c.seekE sec shift)]) ∧ Below w.heap.size w w' := by
 obtain ⟨ci, ch, cd, cm, cw, ad, aw⟩ := c
 have HC := J hf
 have HB := J ((Below.refl w.heap.size w).alloc (Nat.le_refl _) (.cells (Cr.cells ⟨ci, ch, cd, cm, cw, ad, aw⟩) 92))
 clear hf
 unfold Cr.cells
 go_enter Tryz.func53, Tryz.ntmps53
 go_wp2_with fail
 refine (cronSeekUp ⟨ci, ch, cd, cm, cw, ad, aw⟩ HC.u sec shift _).mono ?_
 rintro e w1 ⟨rfl, hb⟩
 rw [Cr.seekV_is]
 have HF := J (HB.u.trans (hb.mono HB.u.size))
 clear hb
 go_wp2_with fail
 go_ret3
 exact ⟨rfl, HF.u⟩
theorem cronLast (c : Cr) (hf : c.fits) (sec shift : Int) (w : World) :
  Calls Tryz.prog 205 #[.agg c.cells, .int .i64 sec, .int .i64 shift] w fun e w' => e = .returned (.tuple #[.int .i64 (c.seekN sec shift (-1)), .bool (c.seekB sec shift (-1)), .int .i64 (c.seekE sec shift)]) ∧ Below w.heap.size w w' := by
 obtain ⟨ci, ch, cd, cm, cw, ad, aw⟩ := c
 have HC := J hf
 have HB := J ((Below.refl w.heap.size w).alloc (Nat.le_refl _) (.cells (Cr.cells ⟨ci, ch, cd, cm, cw, ad, aw⟩) 92))
 clear hf
 unfold Cr.cells
 go_enter Tryz.func205, Tryz.ntmps205
 go_wp2_with fail
 refine (cronSeekDn ⟨ci, ch, cd, cm, cw, ad, aw⟩ HC.u sec shift _).mono ?_
 rintro e w1 ⟨rfl, hb⟩
 rw [Cr.seekV_is]
 have HF := J (HB.u.trans (hb.mono HB.u.size))
 clear hb
 go_wp2_with fail
 go_ret3
 exact ⟨rfl, HF.u⟩
open Go.RowKit
def spanE (a b : Cr) : Int := if a.ok then b.err else 1
def spanInB (a b : Cr) (sec shift : Int) : Bool := if spanE a b = 0 ∧ okTime sec shift then a.seekB sec shift (-1) && (!(b.seekB sec shift (-1)) || decide (b.seekN sec shift (-1) ≤ a.seekN sec shift (-1))) else false
def spanInE (a b : Cr) (sec shift : Int) : Int := if spanE a b = 0 then (if okTime sec shift then 0 else 1) else 1
theorem spanCheck (ai ah ad am aw bi bh bd bm bw : Nat) (aa ab ba bb : Bool) (ha : Cr.fits ⟨ai, ah, ad, am, aw, aa, ab⟩) (hb : Cr.fits ⟨bi, bh, bd, bm, bw, ba, bb⟩) (w : World) : Calls Tryz.prog 155 #[.agg #[.int .u64 (ai : Int), .int .u64 (ah : Int), .int .u64 (ad : Int), .int .u64 (am : Int), .int .u64 (aw : Int), .bool aa, .bool ab, .int .u64 (bi : Int), .int .u64 (bh : Int), .int .u64 (bd : Int), .int .u64 (bm : Int), .int .u64 (bw : Int), .bool ba, .bool bb]] w fun e w' => e = .returned (.int .i64 (spanE ⟨ai, ah, ad, am, aw, aa, ab⟩ ⟨bi, bh, bd, bm, bw, ba, bb⟩)) ∧ Below w.heap.size w w' := by
 have HCa := J ha; have HCb := J hb
 have HB := J ((Below.refl w.heap.size w).alloc (Nat.le_refl _) (.cells #[.int .u64 (ai : Int), .int .u64 (ah : Int), .int .u64 (ad : Int), .int .u64 (am : Int), .int .u64 (aw : Int), .bool aa, .bool ab, .int .u64 (bi : Int), .int .u64 (bh : Int), .int .u64 (bd : Int), .int .u64 (bm : Int), .int .u64 (bw : Int), .bool ba, .bool bb] 169))
 have HX := J (G.At.made w 169 #[.int .u64 (ai : Int), .int .u64 (ah : Int), .int .u64 (ad : Int), .int .u64 (am : Int), .int .u64 (aw : Int), .bool aa, .bool ab, .int .u64 (bi : Int), .int .u64 (bh : Int), .int .u64 (bd : Int), .int .u64 (bm : Int), .int .u64 (bw : Int), .bool ba, .bool bb])
 clear ha hb
 cases hok : Cr.ok ⟨ai, ah, ad, am, aw, aa, ab⟩
 ·have he : Cr.err ⟨ai, ah, ad, am, aw, aa, ab⟩ = 1 := Cr.err_no hok
  have HE := J (show spanE ⟨ai, ah, ad, am, aw, aa, ab⟩ ⟨bi, bh, bd, bm, bw, ba, bb⟩ = 1 by unfold spanE; rw [if_neg (by rw [hok]; simp)])
  clear hok
  go_enter Tryz.func155, Tryz.ntmps155
  go_wp2_with fail
  refine (cronCheck ⟨ai, ah, ad, am, aw, aa, ab⟩ HCa.u _).mono ?_
  rintro e w1 ⟨rfl, hb1⟩
  rw [he]
  have HF := J (HB.u.trans (hb1.mono HB.u.size))
  clear hb1
  go_wp2_with fail
  go_ret
  exact ⟨by rw [HE.u] <;> rfl, HF.u⟩
 have he : Cr.err ⟨ai, ah, ad, am, aw, aa, ab⟩ = 0 := Cr.err_yes hok
 have HE := J (show spanE ⟨ai, ah, ad, am, aw, aa, ab⟩ ⟨bi, bh, bd, bm, bw, ba, bb⟩ = Cr.err ⟨bi, bh, bd, bm, bw, ba, bb⟩ by unfold spanE; rw [if_pos hok])
 clear hok
 go_enter Tryz.func155, Tryz.ntmps155
 go_wp2_with fail
 refine (cronCheck ⟨ai, ah, ad, am, aw, aa, ab⟩ HCa.u _).mono ?_
 rintro e w1 ⟨rfl, hb1⟩
 rw [he]
 have HB1 := J (HB.u.trans (hb1.mono HB.u.size))
 have HX1 := J (HX.u.below hb1 HX.u.inside)
 clear hb1
 have y0 := HX1.u.here (i := 7) rfl; have y1 := HX1.u.here (i := 8) rfl; have y2 := HX1.u.here (i := 9) rfl; have y3 := HX1.u.here (i := 10) rfl; have y4 := HX1.u.here (i := 11) rfl; have y5 := HX1.u.here (i := 12) rfl; have y6 := HX1.u.here (i := 13) rfl
 go_wp2_with fail
 refine (cronCheck ⟨bi, bh, bd, bm, bw, ba, bb⟩ HCb.u _).mono ?_
 rintro e w2 ⟨rfl, hb2⟩
 have HF := J (HB1.u.trans (hb2.mono HB1.u.size))
 clear hb2 y0 y1 y2 y3 y4 y5 y6
 go_wp2_with fail
 go_ret
 exact ⟨by rw [HE.u] <;> rfl, HF.u⟩
theorem spanIn (ai ah ad am aw bi bh bd bm bw : Nat) (aa ab ba bb : Bool) (ha : Cr.fits ⟨ai, ah, ad, am, aw, aa, ab⟩) (hb : Cr.fits ⟨bi, bh, bd, bm, bw, ba, bb⟩) (sec shift : Int) (w : World) : Calls Tryz.prog 197 #[.agg #[.int .u64 (ai : Int), .int .u64 (ah : Int), .int .u64 (ad : Int), .int .u64 (am : Int), .int .u64 (aw : Int), .bool aa, .bool ab, .int .u64 (bi : Int), .int .u64 (bh : Int), .int .u64 (bd : Int), .int .u64 (bm : Int), .int .u64 (bw : Int), .bool ba, .bool bb], .int .i64 sec, .int .i64 shift] w fun e w' => e = .returned (.tuple #[.bool (spanInB ⟨ai, ah, ad, am, aw, aa, ab⟩ ⟨bi, bh, bd, bm, bw, ba, bb⟩ sec shift), .int .i64 (spanInE ⟨ai, ah, ad, am, aw, aa, ab⟩ ⟨bi, bh, bd, bm, bw, ba, bb⟩ sec shift)]) ∧ Below w.heap.size w w' := by
 have HCa := J ha; have HCb := J hb
 have HB := J ((Below.refl w.heap.size w).alloc (Nat.le_refl _) (.cells #[.int .u64 (ai : Int), .int .u64 (ah : Int), .int .u64 (ad : Int), .int .u64 (am : Int), .int .u64 (aw : Int), .bool aa, .bool ab, .int .u64 (bi : Int), .int .u64 (bh : Int), .int .u64 (bd : Int), .int .u64 (bm : Int), .int .u64 (bw : Int), .bool ba, .bool bb] 169))
 have HX := J (G.At.made w 169 #[.int .u64 (ai : Int), .int .u64 (ah : Int), .int .u64 (ad : Int), .int .u64 (am : Int), .int .u64 (aw : Int), .bool aa, .bool ab, .int .u64 (bi : Int), .int .u64 (bh : Int), .int .u64 (bd : Int), .int .u64 (bm : Int), .int .u64 (bw : Int), .bool ba, .bool bb])
 have HCk := J (fun (W : World) => spanCheck ai ah ad am aw bi bh bd bm bw aa ab ba bb ha hb W)
 clear ha hb
 by_cases hE : spanE ⟨ai, ah, ad, am, aw, aa, ab⟩ ⟨bi, bh, bd, bm, bw, ba, bb⟩ = 0
 case neg =>
  have hE1 : spanE ⟨ai, ah, ad, am, aw, aa, ab⟩ ⟨bi, bh, bd, bm, bw, ba, bb⟩ = 1 := by unfold spanE Cr.err at hE ⊢; split at hE <;> (try split at hE) <;> simp_all
  have H1 := J (show spanInB ⟨ai, ah, ad, am, aw, aa, ab⟩ ⟨bi, bh, bd, bm, bw, ba, bb⟩ sec shift = false by unfold spanInB; rw [if_neg (fun h => hE h.1)])
  have H2 := J (show spanInE ⟨ai, ah, ad, am, aw, aa, ab⟩ ⟨bi, bh, bd, bm, bw, ba, bb⟩ sec shift = 1 by unfold spanInE; rw [if_neg hE])
  clear hE
  go_enter Tryz.func197, Tryz.ntmps197
  go_wp2_with fail
  refine (HCk.u _).mono ?_
  rintro e w1 ⟨rfl, hb1⟩
  rw [hE1]
  have HF := J (HB.u.trans (hb1.mono HB.u.size))
  clear hb1
  go_wp2_with fail
  go_ret2
  exact ⟨by rw [H1.u, H2.u] <;> rfl, HF.u⟩
 have hoa : Cr.ok ⟨ai, ah, ad, am, aw, aa, ab⟩ = true := by unfold spanE at hE; split at hE; assumption; cases hE
 go_enter Tryz.func197, Tryz.ntmps197
 go_wp2_with fail
 refine (HCk.u _).mono ?_
 rintro e w1 ⟨rfl, hb1⟩
 rw [hE]
 have HB1 := J (HB.u.trans (hb1.mono HB.u.size))
 have HX1 := J (HX.u.below hb1 HX.u.inside)
 clear hb1
 have z0 := HX1.u.here (i := 0) rfl; have z1 := HX1.u.here (i := 1) rfl; have z2 := HX1.u.here (i := 2) rfl; have z3 := HX1.u.here (i := 3) rfl; have z4 := HX1.u.here (i := 4) rfl; have z5 := HX1.u.here (i := 5) rfl; have z6 := HX1.u.here (i := 6) rfl
 go_wp2_with fail
 refine (cronLast ⟨ai, ah, ad, am, aw, aa, ab⟩ HCa.u sec shift _).mono ?_
 rintro e w2 ⟨rfl, hb2⟩
 have HB2 := J (HB1.u.trans (hb2.mono HB1.u.size))
 have HX2 := J (HX1.u.below hb2 HX1.u.inside)
 clear hb2 z0 z1 z2 z3 z4 z5 z6
 by_cases hot : okTime sec shift
 case neg =>
  have he : Cr.seekE ⟨ai, ah, ad, am, aw, aa, ab⟩ sec shift = 1 := by unfold Cr.seekE; rw [if_pos hoa, if_neg hot]
  have H1 := J (show spanInB ⟨ai, ah, ad, am, aw, aa, ab⟩ ⟨bi, bh, bd, bm, bw, ba, bb⟩ sec shift = false by unfold spanInB; rw [if_neg (fun h => hot h.2)])
  have H2 := J (show spanInE ⟨ai, ah, ad, am, aw, aa, ab⟩ ⟨bi, bh, bd, bm, bw, ba, bb⟩ sec shift = 1 by unfold spanInE; rw [if_pos hE, if_neg hot])
  rw [he]
  clear he hot hE hoa
  go_wp2_with fail
  go_ret2
  exact ⟨by rw [H1.u, H2.u] <;> rfl, HB2.u⟩
 have he : Cr.seekE ⟨ai, ah, ad, am, aw, aa, ab⟩ sec shift = 0 := by unfold Cr.seekE; rw [if_pos hoa, if_pos hot]
 have H1 := J (show spanInB ⟨ai, ah, ad, am, aw, aa, ab⟩ ⟨bi, bh, bd, bm, bw, ba, bb⟩ sec shift = (Cr.seekB ⟨ai, ah, ad, am, aw, aa, ab⟩ sec shift (-1) && (!(Cr.seekB ⟨bi, bh, bd, bm, bw, ba, bb⟩ sec shift (-1)) || decide (Cr.seekN ⟨bi, bh, bd, bm, bw, ba, bb⟩ sec shift (-1) ≤ Cr.seekN ⟨ai, ah, ad, am, aw, aa, ab⟩ sec shift (-1)))) by unfold spanInB; rw [if_pos ⟨hE, hot⟩])
 have H2 := J (show spanInE ⟨ai, ah, ad, am, aw, aa, ab⟩ ⟨bi, bh, bd, bm, bw, ba, bb⟩ sec shift = 0 by unfold spanInE; rw [if_pos hE, if_pos hot])
 rw [he]
 clear he hot hE hoa
 have y0 := HX2.u.here (i := 7) rfl; have y1 := HX2.u.here (i := 8) rfl; have y2 := HX2.u.here (i := 9) rfl; have y3 := HX2.u.here (i := 10) rfl; have y4 := HX2.u.here (i := 11) rfl; have y5 := HX2.u.here (i := 12) rfl; have y6 := HX2.u.here (i := 13) rfl
 generalize Cr.seekN ⟨ai, ah, ad, am, aw, aa, ab⟩ sec shift (-1) = na at H1 ⊢
 generalize Cr.seekB ⟨ai, ah, ad, am, aw, aa, ab⟩ sec shift (-1) = ba' at H1 ⊢
 go_wp2_with fail
 refine (cronLast ⟨bi, bh, bd, bm, bw, ba, bb⟩ HCb.u sec shift _).mono ?_
 rintro e w3 ⟨rfl, hb3⟩
 have HF := J (HB2.u.trans (hb3.mono HB2.u.size))
 clear hb3 y0 y1 y2 y3 y4 y5 y6
 generalize Cr.seekN ⟨bi, bh, bd, bm, bw, ba, bb⟩ sec shift (-1) = nb at H1 ⊢
 generalize Cr.seekB ⟨bi, bh, bd, bm, bw, ba, bb⟩ sec shift (-1) = bb' at H1 ⊢
 cases ba' <;> cases bb'
 all_goals
  go_wp2_with fail
  go_ret2
  exact ⟨by rw [H1.u, H2.u] <;> rfl, HF.u⟩
end Go.Proofs.YtoidcbpcnikejaaGreatDoor
