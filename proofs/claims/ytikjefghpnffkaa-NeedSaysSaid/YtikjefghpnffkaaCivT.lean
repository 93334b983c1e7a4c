/- The contracts of the reference's Of and Seconds. -/
import Derived.Test.YtikjefghpnffkaaCivS
import Derived.Test.YtikjefghpnffkaaNumL
import Derived.Test.YtikjefghpnffkaaMem
namespace Go.Proofs.Ytikjefghpnffkaa
open Go.RowKit
set_option linter.unusedVariables false

theorem bcell {W w1 : World} (hb : Below W.heap.size W w1) : (∀ b o, b < W.heap.size → w1.cell? ⟨b, o, none⟩ = W.cell? ⟨b, o, none⟩) ∧ (∀ b o, b < W.heap.size → w1.frozen? ⟨b, o, none⟩ = W.frozen? ⟨b, o, none⟩) :=
  ⟨fun b o h => hb.cell (p := ⟨b, o, none⟩) h, fun b o h => hb.frozen (p := ⟨b, o, none⟩) h⟩

theorem two_at {w w1 : World} {T U : TypeId} {a b : Array Value} (hb : Below ((w.alloc (.cells a T)).alloc (.cells b U)).heap.size ((w.alloc (.cells a T)).alloc (.cells b U)) w1) :
    Tide.At w1 w.heap.size T a ∧ Tide.At w1 (w.heap.size + 1) U b ∧ w.heap.size + 1 < w1.heap.size := by
  have h1 : Tide.At w1 (w.heap.size + 1) U b := by
    have := Tide.At.made (w.alloc (.cells a T)) U b
    rw [World.size_alloc] at this
    exact this.below hb (by simp)
  exact ⟨((Tide.At.made w T _).alloc _).below hb (by simp; omega), h1, by have := hb.size; simp at this; omega⟩
/-- seven integers in a block, one by one -/
theorem At7 {w : World} {g : Nat} {T : TypeId} {a b c d e f h : Value} (hA : Tide.At w g T #[a, b, c, d, e, f, h]) :
    w.cell? ⟨g, 0, none⟩ = some a ∧ w.cell? ⟨g, 1, none⟩ = some b ∧ w.cell? ⟨g, 2, none⟩ = some c ∧ w.cell? ⟨g, 3, none⟩ = some d ∧ w.cell? ⟨g, 4, none⟩ = some e ∧ w.cell? ⟨g, 5, none⟩ = some f ∧ w.cell? ⟨g, 6, none⟩ = some h ∧
    w.frozen? ⟨g, 0, none⟩ = false ∧ w.frozen? ⟨g, 1, none⟩ = false ∧ w.frozen? ⟨g, 2, none⟩ = false ∧ w.frozen? ⟨g, 3, none⟩ = false ∧ w.frozen? ⟨g, 4, none⟩ = false ∧ w.frozen? ⟨g, 5, none⟩ = false ∧ w.frozen? ⟨g, 6, none⟩ = false :=
  ⟨hA.here rfl, hA.here rfl, hA.here rfl, hA.here rfl, hA.here rfl, hA.here rfl, hA.here rfl, hA.soft _, hA.soft _, hA.soft _, hA.soft _, hA.soft _, hA.soft _, hA.soft _⟩
theorem At7_put6 {w w' : World} {g : Nat} {T : TypeId} {a b c d e f h a' b' c' d' e' f' : Value} (hA : Tide.At w g T #[a, b, c, d, e, f, h])
    (hw : (((((w.setCell ⟨g, 0, none⟩ a').setCell ⟨g, 1, none⟩ b').setCell ⟨g, 2, none⟩ c').setCell ⟨g, 3, none⟩ d').setCell ⟨g, 4, none⟩ e').setCell ⟨g, 5, none⟩ f' = w') :
    Tide.At w' g T #[a', b', c', d', e', f', h] ∧ w'.heap.size = w.heap.size ∧ ∀ B, B ≤ g → Below B w w' := by
  subst hw
  refine ⟨(((((hA.put 0 a').put 1 b').put 2 c').put 3 d').put 4 e').put 5 f', by simp, fun B hB => ?_⟩
  exact ((((((Below.refl B w).setCell hB _).setCell hB _).setCell hB _).setCell hB _).setCell hB _).setCell hB _
theorem At_put6_other {w w' : World} {g g' : Nat} {T : TypeId} {cs : Array Value} {a' b' c' d' e' f' : Value} (hA : Tide.At w g' T cs) (hne : g' ≠ g)
    (hw : (((((w.setCell ⟨g, 0, none⟩ a').setCell ⟨g, 1, none⟩ b').setCell ⟨g, 2, none⟩ c').setCell ⟨g, 3, none⟩ d').setCell ⟨g, 4, none⟩ e').setCell ⟨g, 5, none⟩ f' = w') : Tide.At w' g' T cs := by
  subst hw
  exact (((((hA.other hne _).other hne _).other hne _).other hne _).other hne _).other hne _
theorem below_two {w w1 : World} {o o' : Obj} (hb : Below ((w.alloc o).alloc o').heap.size ((w.alloc o).alloc o') w1) : Below w.heap.size w w1 :=
  (((Below.refl _ _).alloc (Nat.le_refl _) _).alloc (by simp) _).trans (hb.mono (by simp; omega))

set_option maxHeartbeats 1600000 in
theorem refOf_no (s h : Int) (w : World) (hb : ¬ okTime s h) : Calls Try.prog 13 #[.int .i64 s, .int .i64 h] w fun e w' =>
    e = .returned (.tuple #[civZero, .int .i64 1]) ∧ Below w.heap.size w w' := by
  by_cases c1 : -100000000000 ≤ s ∧ s ≤ 100000000000
  · have c2 : h < -900 ∨ 900 < h := by unfold okTime at hb; omega
    clear hb
    go_enter Try.func13, Try.ntmps13
    go_wp2_with fail
    refine (refIn_yes _ _ _ _ c1.1 c1.2).mono ?_
    rintro e w' ⟨rfl, rfl⟩
    go_wp2_with fail
    refine (refIn_no _ _ _ _ c2).mono ?_
    rintro e w' ⟨rfl, rfl⟩
    go_wp2_with fail
    refine bodyPost_ret (v := .tuple #[.agg #[.int .i64 0, .int .i64 0, .int .i64 0, .int .i64 0, .int .i64 0, .int .i64 0, .int .i64 0], .int .i64 1]) (by simp [results, Try.results13, go_sem]) rfl ⟨rfl, ?_⟩
    go_grown
  · clear hb
    go_enter Try.func13, Try.ntmps13
    go_wp2_with fail
    refine (refIn_no _ _ _ _ (by omega)).mono ?_
    rintro e w' ⟨rfl, rfl⟩
    go_wp2_with fail
    refine bodyPost_ret (v := .tuple #[.agg #[.int .i64 0, .int .i64 0, .int .i64 0, .int .i64 0, .int .i64 0, .int .i64 0, .int .i64 0], .int .i64 1]) (by simp [results, Try.results13, go_sem]) rfl ⟨rfl, ?_⟩
    go_grown

set_option maxHeartbeats 1600000 in
theorem refOf_yes (s h : Int) (w : World) (hb : okTime s h) : Calls Try.prog 13 #[.int .i64 s, .int .i64 h] w fun e w' =>
    e = .returned (.tuple #[civAgg s h, .int .i64 0]) ∧ Below w.heap.size w w' := by
  obtain ⟨b0, b1, b2, b3⟩ := hb
  obtain ⟨t, ht⟩ : ∃ t, t = s + h * 60 := ⟨_, rfl⟩
  have er : Hid (rest (s + h * 60) 86400 = t % 86400) := by show _ = _; rw [ht]; rfl
  have ew : Hid (rest (t / 86400 + 4) 7 = (t / 86400 + 4) % 7) := rfl
  have t0 : -100000054000 ≤ t := by omega
  have t1 : t ≤ 100000054000 := by omega
  have et := ht.symm
  have hag : Hid (civAgg s h = .agg #[.int .i64 (Tide.yrOf (t / 86400)), .int .i64 (Tide.moOf (t / 86400)), .int .i64 (Tide.dyOf (t / 86400)), .int .i64 (t % 86400 / 3600), .int .i64 (t % 86400 / 60 % 60), .int .i64 (t % 86400 % 60), .int .i64 ((t / 86400 + 4) % 7)]) := by
    show _ = _; unfold civAgg; rw [show s + 60 * h = t by omega]
  have eq2 : (t - t % 86400).tdiv 86400 = t / 86400 := by
    rw [tdiv_eq_if]; split <;> omega
  have eq3 : t % 86400 % 3600 / 60 = t % 86400 / 60 % 60 := by omega
  clear ht
  go_enter Try.func13, Try.ntmps13
  go_wp2_with fail
  refine (refIn_yes _ _ _ _ b0 b1).mono ?_
  rintro e w' ⟨rfl, rfl⟩
  go_wp2_with fail
  refine (refIn_yes _ _ _ _ b2 b3).mono ?_
  rintro e w' ⟨rfl, rfl⟩
  go_wp2_with fail
  refine (refRest _ _ _ (by omega) (by omega)).mono ?_
  rw [← et, er.out]
  rintro e w' ⟨rfl, rfl⟩
  go_wp2_with fail
  refine (refDate _ _ (by omega) (by omega)).mono ?_
  rintro e w1 ⟨rfl, hb1⟩
  obtain ⟨hA, hC, hz⟩ := two_at hb1
  have hbw := below_two hb1
  clear hb1
  have HA := Lib.hid hA; have HC := Lib.hid hC
  obtain ⟨k0, k1, k2, k3, k4, k5, k6, l0, l1, l2, l3, l4, l5, l6⟩ := At7 hC
  clear hA hC
  go_wp2_with fail
  refine (refRest _ _ _ (by omega) (by omega)).mono ?_
  rw [ew.out]
  rintro e w2 ⟨rfl, hw⟩
  obtain ⟨hC, hs, hb2⟩ := At7_put6 HC.out hw
  have hA := At_put6_other HA.out (by omega) hw
  have hbw2 := hbw.trans (hb2 w.heap.size (by omega))
  clear hw hb2 k0 k1 k2 k3 k4 k5 k6 l0 l1 l2 l3 l4 l5 l6
  obtain ⟨k0, k1, k2, k3, k4, k5, k6, l0, l1, l2, l3, l4, l5, l6⟩ := At7 hC
  obtain ⟨i0, i1, i2, i3, i4, i5, i6, j0, j1, j2, j3, j4, j5, j6⟩ := At7 hA
  clear hA hC hs HA HC hbw
  go_wp2_with fail
  refine bodyPost_ret (v := .tuple #[.agg #[.int .i64 (Tide.yrOf (t / 86400)), .int .i64 (Tide.moOf (t / 86400)), .int .i64 (Tide.dyOf (t / 86400)), .int .i64 (t % 86400 / 3600), .int .i64 (t % 3600 / 60), .int .i64 (t % 60), .int .i64 ((t / 86400 + 4) % 7)], .int .i64 0]) (by simp [results, Try.results13, go_sem, i0, i1, i2, i3, i4, i5, i6]) rfl ⟨?_, ?_⟩
  · rw [hag.out, show t % 86400 / 60 % 60 = t % 3600 / 60 by omega, show t % 86400 % 60 = t % 60 by omega]
  · exact (((((((hbw2.setCell (by simp) _).setCell (by simp) _).setCell (by simp) _).setCell (by simp) _).setCell (by simp) _).setCell (by simp) _).setCell (by simp) _).setCell (by simp) _
end Go.Proofs.Ytikjefghpnffkaa
