/- The contracts of fewer, Scale. -/
import Derived.Test.YtgcdomoecikooaaFleD
import Derived.Test.YtgcdomoecikooaaFleN
namespace Go.Proofs.Ytgcdomoecikooaa
open Go.RowKit
set_option linter.unusedVariables false
theorem idx_some (i : Nat) : Tide.idxOf (some i) = (i : Int) := rfl
theorem idx_none : Tide.idxOf none = -1 := rfl
set_option maxRecDepth 100000 in
set_option maxHeartbeats 6400000 in
theorem fleFewer (S : Nat → Prop) (g : Nat) (v : Value) (l : List Tide.Pod) (last most : Int) (w : World) (h : FAt 88 S w g v l last most) (hst : ∀ p ∈ l, 1 ≤ p.state ∧ p.state ≤ 4) (hlv : 0 < Tide.liveN l) :
    Calls Try.prog 61 #[.pointer (some ⟨g, 0, none⟩)] w (FlePost 88 S w g (Tide.fewerL l) last most) := by
  have hs := h.small
  have HH := Lib.hid h
  have HV := Lib.hid (Tide.victim hst hlv)
  clear h hst hlv
  go_enter Try.func61, Try.ntmps61
  go_wp2_with fail
  have HX := Lib.hid (Tide.At.made w 3 #[.int .i64 1, .int .i64 2])
  have HB := Lib.hid ((Below.refl w.heap.size w).alloc (Nat.le_refl _) (.cells #[.int .i64 1, .int .i64 2] 3))
  go_loopw [8] (fun i wr => ∃ k : Nat, k ≤ 2 ∧ i = .int .i64 k ∧ Hid ((1 ≤ k → Tide.best 1 Tide.gtId l = none) ∧ (2 ≤ k → Tide.best 2 Tide.gtId l = none)) ∧ Hid (Tide.At wr w.heap.size 3 #[.int .i64 1, .int .i64 2]) ∧ Hid (Below w.heap.size w wr)) (fun i _ => 2 - (intOf i).toNat)
  case atStart => exact ⟨0, by omega, rfl, Lib.hid ⟨fun h => by omega, fun h => by omega⟩, HX, HB⟩
  case round =>
    clear HX HB
    obtain ⟨k, hk, rfl, HK, HX, HB⟩ := hrel
    have HF := Lib.hid (HH.out.below HB.out)
    rcases (show k = 0 ∨ k = 1 ∨ k = 2 by omega) with rfl | rfl | rfl
    · have x0 := HX.out.here (i := 0) rfl
      go_wp2_with fail
      refine (fleBest_gt S g v l last most 1 _ HF.out).mono ?_
      rintro e w1 ⟨rfl, hb1⟩
      have HB1 := Lib.hid (HB.out.trans (hb1.mono HB.out.size))
      have HX1 := Lib.hid (HX.out.below hb1 HX.out.inside)
      clear hb1 x0
      cases hq : Tide.best 1 Tide.gtId l with
      | some i =>
        rw [idx_some]
        obtain ⟨p, hp, _⟩ := Tide.best_at hq
        have HE := Lib.hid (show Tide.fewerL l = l.eraseIdx i by unfold Tide.fewerL; rw [hq])
        have i0 : (0 : Int) ≤ (i : Int) := by omega
        clear hq
        go_wp2_with fail
        refine (fleGone S g v l last most i _ (HH.out.below HB1.out) (Tide.get_lt hp)).mono ?_
        rintro e w2 ⟨⟨x, rfl⟩, ⟨v2, h2⟩, c2⟩
        have HR := Lib.hid (show FlePost 88 S w g (Tide.fewerL l) last most (.returned (.tuple #[])) w2 from ⟨⟨_, rfl⟩, ⟨_, by rw [HE.out]; exact h2⟩, (Tide.Chg.of_below HB1.out (Nat.le_refl _)).trans c2⟩)
        clear h2 c2 hp
        go_wp2_with fail
        go_end0
        exact HR.out
      | none =>
        rw [idx_none]
        have HQ := Lib.hid hq
        clear hq
        go_wp2_with fail
        go_roundw
        case rel => exact ⟨1, by omega, by go_num, Lib.hid ⟨fun _ => HQ.out, fun h => by omega⟩, HX1, HB1⟩
        case measure => simp [intOf]
    · have x1 := HX.out.here (i := 1) rfl
      go_wp2_with fail
      refine (fleBest_gt S g v l last most 2 _ HF.out).mono ?_
      rintro e w1 ⟨rfl, hb1⟩
      have HB1 := Lib.hid (HB.out.trans (hb1.mono HB.out.size))
      have HX1 := Lib.hid (HX.out.below hb1 HX.out.inside)
      clear hb1 x1
      cases hq : Tide.best 2 Tide.gtId l with
      | some i =>
        rw [idx_some]
        obtain ⟨p, hp, _⟩ := Tide.best_at hq
        have HE := Lib.hid (show Tide.fewerL l = l.eraseIdx i by unfold Tide.fewerL; rw [HK.out.1 (by decide), hq])
        have i0 : (0 : Int) ≤ (i : Int) := by omega
        clear hq
        go_wp2_with fail
        refine (fleGone S g v l last most i _ (HH.out.below HB1.out) (Tide.get_lt hp)).mono ?_
        rintro e w2 ⟨⟨x, rfl⟩, ⟨v2, h2⟩, c2⟩
        have HR := Lib.hid (show FlePost 88 S w g (Tide.fewerL l) last most (.returned (.tuple #[])) w2 from ⟨⟨_, rfl⟩, ⟨_, by rw [HE.out]; exact h2⟩, (Tide.Chg.of_below HB1.out (Nat.le_refl _)).trans c2⟩)
        clear h2 c2 hp
        go_wp2_with fail
        go_end0
        exact HR.out
      | none =>
        rw [idx_none]
        have HQ := Lib.hid hq
        clear hq
        go_wp2_with fail
        go_roundw
        case rel => exact ⟨2, by omega, by go_num, Lib.hid ⟨fun _ => HK.out.1 (by decide), fun _ => HQ.out⟩, HX1, HB1⟩
        case measure => simp [intOf]
    · obtain ⟨i, hi⟩ := HV.out (HK.out.1 (by decide)) (HK.out.2 (by decide))
      have HI := Lib.hid hi
      clear hi
      go_wp2_with fail
      refine (fleBest_both S g v l last most 3 _ HF.out).mono ?_
      rintro e w1 ⟨rfl, hb1⟩
      have HB1 := Lib.hid (HB.out.trans (hb1.mono HB.out.size))
      clear hb1
      rw [HI.out, idx_some]
      obtain ⟨p, hp, hst⟩ := Tide.best_at HI.out
      obtain ⟨b, cap, rfl, hS, _, _, hbl, c0, c1, c2, fz⟩ := (HH.out.below HB1.out).pod hp
      have hc : w1.cell? ⟨g, 0, none⟩ = some (.slice (some ⟨b, 0, none⟩) l.length cap) := (HH.out.below HB1.out).head.here rfl
      have hla : Tide.loadAt l i = p.load := by unfold Tide.loadAt; rw [hp]; rfl
      have hil := Tide.get_lt hp
      have i0 : (0 : Int) ≤ (i : Int) := by omega
      have i1 : (i : Int) < (l.length : Int) := by omega
      have f1 := fz (i * 3 + 1)
      have HP := Lib.hid hp
      have HK1 := Lib.hid (HK.out.1 (by decide)); have HK2 := Lib.hid (HK.out.2 (by decide))
      clear hp hst c0 fz HK
      by_cases hz : p.load = 0
      · have HE := Lib.hid (show Tide.fewerL l = l.eraseIdx i by unfold Tide.fewerL; rw [HK1.out, HK2.out, HI.out]; simp only [hla, hz]; rfl)
        rw [hz] at c2
        clear hla hz
        go_wp2_with fail
        refine (fleGone S g _ l last most i _ (HH.out.below HB1.out) hil).mono ?_
        rintro e w2 ⟨⟨x, rfl⟩, ⟨v2, h2⟩, ch2⟩
        have HR := Lib.hid (show FlePost 88 S w g (Tide.fewerL l) last most (.returned (.tuple #[])) w2 from ⟨⟨_, rfl⟩, ⟨_, by rw [HE.out]; exact h2⟩, (Tide.Chg.of_below HB1.out (Nat.le_refl _)).trans ch2⟩)
        clear h2 ch2
        go_wp2_with fail
        go_end0
        exact HR.out
      · have HE := Lib.hid (show Tide.fewerL l = l.set i { p with state := 4 } by unfold Tide.fewerL; rw [HK1.out, HK2.out, HI.out]; simp only [hla, hz]; unfold Tide.drainAt; rw [HP.out]; rfl)
        have hz2 : (p.load == 0) = false := by simp only [beq_eq_false_iff_ne]; exact hz
        have p1 := (HH.out.below HB1.out).put (by decide) (k := i) (j := 1) (r' := { p with state := 4 }) (u := .int .i64 4) HP.out (by decide) rfl
        have HR := Lib.hid (show FlePost 88 S w g (Tide.fewerL l) last most (.returned (.tuple #[])) _ from ⟨⟨_, rfl⟩, ⟨_, by rw [HE.out]; exact p1.1⟩, (Tide.Chg.of_below HB1.out (Nat.le_refl _)).trans p1.2⟩)
        clear hla hz p1
        go_wp2_with fail
        go_end0
        exact HR.out
end Go.Proofs.Ytgcdomoecikooaa
