/- A loop of the call's own, call by call; the plain plan, a depth; the small check 'looks'. -/
import Derived.Test.YtidonhndeohdlaaGreatDoorTtLopI
import Derived.Test.YtidonhndeohdlaaGreatDoorTtLopG
import Derived.Test.YtidonhndeohdlaaGreatDoorTt29
set_option linter.unusedVariables false
set_option linter.unusedSimpArgs false
namespace Go.Proofs.YtidonhndeohdlaaGreatDoor
open Go.RowKit
def LopRun (w0 : World) (top : Nat) (w : World) (g : Nat) (l : Lp) : Prop :=
  ∃ (gs : Nat) (vt vf vw vm : Value) (S1 S2 : Nat → Prop), LopAt 128 173 224 S1 S2 w g gs vt vf vw vm l ∧ (∀ b, S1 b ∨ S2 b → w0.heap.size ≤ b ∧ b < top) ∧ Below w0.heap.size w0 w
theorem LopRun.below {w0 w w' : World} {top g : Nat} {l : Lp} (h : LopRun w0 top w g l) (hb : Below w.heap.size w w') : LopRun w0 top w' g l := by
  obtain ⟨gs, vt, vf, vw, vm, S1, S2, h1, h2, h3⟩ := h
  exact ⟨gs, vt, vf, vw, vm, S1, S2, h1.below hb, h2, h3.trans (hb.mono h3.size)⟩
theorem LopRun.alloc {w0 w : World} {top g : Nat} {l : Lp} (h : LopRun w0 top w g l) (o : Obj) : LopRun w0 top (w.alloc o) g l := h.below ((Below.refl _ _).alloc (Nat.le_refl _) o)
theorem LopRun.drew {w0 w : World} {top g : Nat} {l : Lp} (h : LopRun w0 top w g l) : LopRun w0 top w.drew g l := h.below (Below.refl _ _).drew
theorem LopRun.out {w0 w : World} {top g : Nat} {l : Lp} (h : LopRun w0 top w g l) : Below w0.heap.size w0 w := by obtain ⟨_, _, _, _, _, _, _, _, _, h⟩ := h; exact h
theorem LopRun.top {w0 w : World} {top g : Nat} {l : Lp} (h : LopRun w0 top w g l) : LopRun w0 w.heap.size w g l := by
  obtain ⟨gs, vt, vf, vw, vm, S1, S2, h1, h2, h3⟩ := h
  exact ⟨gs, vt, vf, vw, vm, S1, S2, h1, fun b hb => ⟨(h2 b hb).1, hb.elim (h1.lim b) (h1.st.lim b)⟩, h3⟩
def PlainPost (w : World) (e : Ending) (w' : World) : Prop := ∃ b, e = .returned (plnV plainP (.slice (some ⟨b, 0, none⟩) 1 1)) ∧ Tide.ListIn w' 17 Trg.enc (.slice (some ⟨b, 0, none⟩) 1 1) [plainT] ∧ Below w.heap.size w w'
theorem plain_list {w : World} {b : Nat} (h : Tide.At w b 65 TC10) : Tide.ListIn w 17 Trg.enc (.slice (some ⟨b, 0, none⟩) 1 1) [plainT] := by
  refine ⟨some ⟨b, 0, none⟩, 1, rfl, fun _ => ⟨b, 0, rfl, h.inside, fun i a j u hi hj => ?_⟩⟩
  rcases i with _ | i
  · simp at hi; subst hi
    rw [Nat.zero_mul, Nat.add_zero, Nat.zero_add]
    refine h.here ?_
    rw [← Array.getElem?_toList]
    exact hj
  · simp at hi
theorem plainP_ok : planE plainP = 0 := by decide +kernel
theorem plainP_fits : ∀ t ∈ plainP.trigs, t.fits := by
  intro t ht
  have e : t = plainT := by simpa [plainP] using ht
  subst e
  exact ⟨by unfold Cr.fits plainT; decide, by unfold Cr.fits plainT; decide⟩
end Go.Proofs.YtidonhndeohdlaaGreatDoor
