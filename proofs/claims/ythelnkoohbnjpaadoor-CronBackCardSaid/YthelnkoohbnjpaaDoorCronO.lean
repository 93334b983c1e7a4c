/- The contract of daily; the walk of CronOr. -/
import Derived.Test.YthelnkoohbnjpaaDoorCronD
import Derived.RegionTactic
import Derived.Deep.DeepCutAuto
set_option linter.unusedVariables false
set_option linter.unusedSimpArgs false
namespace Go.Proofs.YthelnkoohbnjpaaDoor
open Go.RowKit
set_option linter.unusedVariables false

/-- a cron of each day at a time -/
def dailyCr (h m : Nat) : Cr := ⟨2 ^ m, 2 ^ h, 4294967294, 8190, 127, true, true⟩
theorem dailyCr_fits {h m : Nat} (h1 : h ≤ 23) (h2 : m ≤ 59) : (dailyCr h m).fits := by
  have e1 : 2 ^ m ≤ 2 ^ 59 := Nat.pow_le_pow_right (by omega) h2
  have e2 : 2 ^ h ≤ 2 ^ 23 := Nat.pow_le_pow_right (by omega) h1
  have p1 : 2 ^ 59 = 576460752303423488 := by decide
  have p2 : 2 ^ 23 = 8388608 := by decide
  refine ⟨?_, ?_, ?_, ?_, ?_⟩
  · show 2 ^ m < _; omega
  · show 2 ^ h < _; omega
  · show (4294967294 : Nat) < _; omega
  · show (8190 : Nat) < _; omega
  · show (127 : Nat) < _; omega
set_option maxRecDepth 100000 in
set_option maxHeartbeats 800000 in
theorem cronDaily (h m : Nat) (w : World) (h1 : h ≤ 23) (h2 : m ≤ 59) : Calls Tryd.prog 24 #[.int .i64 h, .int .i64 m] w fun e w' => e = .returned (.agg (dailyCr h m).cells) ∧ Below w.heap.size w w' := by
  have l0 : (0 : Int) ≤ (h : Int) := by omega
  have l1 : (h : Int) ≤ 60 := by omega
  have l2 : (0 : Int) ≤ (m : Int) := by omega
  have l3 : (m : Int) ≤ 60 := by omega
  have P1 := Lib.hid (pow_u64 (k := h) (by omega)); have P2 := Lib.hid (pow_u64 (k := m) (by omega))
  clear h1 h2
  go_enter Tryd.func24, Tryd.ntmps24
  go_wp2_with fail
  go_region
  all_goals
    go_wp2_with fail
    rw [P1.out, P2.out]
    refine bodyPost_ret (v := .agg (dailyCr h m).cells) (by simp [results, Tryd.results24, go_sem, dailyCr, Cr.cells]) rfl ⟨rfl, ?_⟩
    exact ((Below.refl _ _).alloc (Nat.le_refl _) _).drew

/-- either is enough -/
theorem Cr.either (c : Cr) (mo d h mi wk : Int) (hok : c.ok = true) (h1 : c.ad = false) (h2 : c.aw = false) (d0 : 1 ≤ d) (d1 : d ≤ 31) (w0 : 0 ≤ wk) (w1 : wk ≤ 6) :
    Cr.ok { c with wk := 127, aw := true } = true ∧ Cr.ok { c with d := 4294967294, ad := true } = true ∧
    c.match mo d h mi wk = (Cr.match { c with wk := 127, aw := true } mo d h mi wk || Cr.match { c with d := 4294967294, ad := true } mo d h mi wk) := by
  obtain ⟨ci, ch, cd, cm, cw, ad, aw⟩ := c
  simp only at h1 h2; subst h1 h2
  have k0 := Cr.ok_at hok 0 (by omega); have k1 := Cr.ok_at hok 1 (by omega); have k2 := Cr.ok_at hok 2 (by omega); have k3 := Cr.ok_at hok 3 (by omega); have k4 := Cr.ok_at hok 4 (by omega)
  have a1 : Tide.okField 127 0 6 true = true := by decide +kernel
  have a2 : Tide.okField 4294967294 1 31 true = true := by decide +kernel
  have o1 : Cr.ok ⟨ci, ch, cd, cm, 127, false, true⟩ = true := by
    refine Cr.ok_of fun i hi => ?_
    match i, hi with
    | 0, _ => exact k0
    | 1, _ => exact k1
    | 2, _ => exact k2
    | 3, _ => exact k3
    | 4, _ => exact a1
  have o2 : Cr.ok ⟨ci, ch, 4294967294, cm, cw, true, false⟩ = true := by
    refine Cr.ok_of fun i hi => ?_
    match i, hi with
    | 0, _ => exact k0
    | 1, _ => exact k1
    | 2, _ => exact a2
    | 3, _ => exact k3
    | 4, _ => exact k4
  refine ⟨o1, o2, ?_⟩
  obtain ⟨dn, rfl⟩ := Int.eq_ofNat_of_zero_le (show 0 ≤ d by omega)
  obtain ⟨wn, rfl⟩ := Int.eq_ofNat_of_zero_le w0
  have b1 : hasB 127 (wn : Int) = true := by
    have : wn ≤ 6 := by omega
    match wn, this with | 0, _ | 1, _ | 2, _ | 3, _ | 4, _ | 5, _ | 6, _ => decide +kernel
  have b2 : hasB 4294967294 (dn : Int) = true := by
    have : ∀ n : Fin 32, 1 ≤ n.val → hasB 4294967294 (n.val : Int) = true := by decide +kernel
    exact this ⟨dn, by omega⟩ (by show 1 ≤ dn; omega)
  simp only [Cr.match, hok, o1, o2, Cr.fit, Cr.day, b1, b2, Bool.or_true, Bool.true_or, Bool.or_false, Bool.false_or, Bool.and_true, Bool.true_and, if_true, Bool.false_eq_true, if_false]
  cases hasB cm mo <;> cases hasB cd (dn : Int) <;> cases hasB cw (wn : Int) <;> cases hasB ch h <;> cases hasB ci mi <;> rfl

/-- two crons in blocks of their own -/
structure TwoAt (w0 w w' : World) (ga gb : Nat) (A B : Array Value) : Prop where
  one : Tide.At w' ga 24 A
  two : Tide.At w' gb 24 B
  apart : ga ≠ gb
  own : w.heap.size ≤ ga ∧ w.heap.size ≤ gb
  below : Below w.heap.size w w'

theorem two_made (w0 w3 : World) (A : Array Value) : TwoAt w0 w3 (((w3.alloc (.cells A 24)).alloc (.cells A 24)).drew) w3.heap.size (w3.heap.size + 1) A A ∧
    TwoAt w0 w3 (((w3.alloc (.cells A 24)).alloc (.cells A 24)).drew) (w3.heap.size + 1) w3.heap.size A A := by
  have h1 := ((Tide.At.made w3 24 A).alloc (.cells A 24)).drew
  have h2 := (Tide.At.made (w3.alloc (.cells A 24)) 24 A).drew
  simp only [World.size_alloc] at h2
  have hb : Below w3.heap.size w3 (((w3.alloc (.cells A 24)).alloc (.cells A 24)).drew) := (((Below.refl _ _).alloc (Nat.le_refl _) _).alloc (by simp) _).drew
  exact ⟨⟨h1, h2, by omega, ⟨by omega, by omega⟩, hb⟩, ⟨h2, h1, by omega, ⟨by omega, by omega⟩, hb⟩⟩
theorem two_put {w0 w w' : World} {ga gb : Nat} {x0 x1 x2 x3 x4 x5 x6 u v u' v' : Value} (h : TwoAt w0 w w' ga gb #[x0, x1, x2, x3, x4, x5, x6] #[x0, x1, x2, x3, x4, x5, x6]) :
    TwoAt w0 w ((((w'.setCell ⟨ga, 4, none⟩ u).setCell ⟨ga, 6, none⟩ v).setCell ⟨gb, 2, none⟩ u').setCell ⟨gb, 5, none⟩ v') ga gb #[x0, x1, x2, x3, u, x5, v] #[x0, x1, u', x3, x4, v', x6] := by
  obtain ⟨h1, h2, h3, h4, h5⟩ := h
  refine ⟨((((h1.put 4 u).put 6 v).other (p := ⟨gb, 2, none⟩) h3 u').other (p := ⟨gb, 5, none⟩) h3 v'), ((((h2.other (p := ⟨ga, 4, none⟩) (Ne.symm h3) u).other (p := ⟨ga, 6, none⟩) (Ne.symm h3) v).put 2 u').put 5 v'), h3, h4, ?_⟩
  exact (((h5.setCell (p := ⟨ga, 4, none⟩) h4.1 u).setCell (p := ⟨ga, 6, none⟩) h4.1 v).setCell (p := ⟨gb, 2, none⟩) h4.2 u').setCell (p := ⟨gb, 5, none⟩) h4.2 v'

end Go.Proofs.YthelnkoohbnjpaaDoor
