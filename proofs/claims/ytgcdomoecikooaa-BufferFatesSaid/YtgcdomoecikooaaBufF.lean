/- The contracts of Run, Done. -/
import Derived.Test.YtgcdomoecikooaaBufE
namespace Go.Proofs.Ytgcdomoecikooaa
open Go.RowKit
set_option linter.unusedVariables false

def RunPost (T : TypeId) (S : Nat → Prop) (w : World) (g : Nat) (l : List Tide.Req) (id pod : Int) (e : Ending) (w' : World) : Prop :=
  e = .returned (.int .i64 (Tide.runErr l id)) ∧ (∃ v, BAt T S w' g v (Tide.runLst l id pod)) ∧ Tide.Chg S w w'
theorem reqAt_at {l : List Tide.Req} {k : Nat} {r : Tide.Req} (h : l[k]? = some r) : Tide.reqAt l ((k : Int) + 1) = some r := by
  unfold Tide.reqAt; rw [if_pos (by omega), show ((k : Int) + 1 - 1).toNat = k by omega]; exact h
set_option maxRecDepth 100000 in
set_option maxHeartbeats 3200000 in
theorem bufRun (S : Nat → Prop) (g : Nat) (v : Value) (l : List Tide.Req) (id pod : Int) (w : World) (h : BAt 74 S w g v l) :
    Calls Try.prog 13 #[.pointer (some ⟨g, 0, none⟩), .int .i64 id, .int .i64 pod] w (RunPost 74 S w g l id pod) := by
  have HH := Lib.hid h
  clear h
  cases hq : Tide.reqAt l id with
  | none =>
    have HF := Lib.hid (show RunPost 74 S w g l id pod (.returned (.int .i64 4)) w from ⟨by unfold Tide.runErr; rw [hq], ⟨v, by unfold Tide.runLst; rw [hq]; exact HH.out⟩, Tide.Chg.refl _ _⟩)
    have HQ := Lib.hid hq
    clear hq
    go_enter Try.func13, Try.ntmps13
    go_wp2_with fail
    refine (bufFind_none S g v l id _ HH.out HQ.out).mono ?_
    rintro e w1 ⟨rfl, rfl⟩
    go_wp2_with fail
    go_ret
    exact HF.out
  | some r =>
    obtain ⟨k, rfl, hr⟩ := reqAt_some hq
    obtain ⟨b, cap, rfl, hS, _, _, hbl, c0, c1, c2, c3, c4, fz⟩ := HH.out.req hr
    have hkl := Tide.get_lt hr
    have HR := Lib.hid hr; have HQ := Lib.hid hq; have HK := Lib.hid hkl
    clear hr hq hkl c0 c2 c3 c4 fz hbl
    go_enter Try.func13, Try.ntmps13
    go_wp2_with fail
    refine (bufFind S g b cap _ l k _ HH.out HK.out).mono ?_
    rintro e w1 ⟨rfl, rfl⟩
    go_wp2_with fail
    refine (bufFirst S g _ l r.source _ HH.out).mono ?_
    rintro e w1 ⟨rfl, hb1⟩
    have HB1 := Lib.hid hb1
    clear hb1 c1
    by_cases hf : Tide.firstN l r.source = (k : Int) + 1
    · have HF := Lib.hid hf
      obtain ⟨b', cap', e, hS', _, _, hbl, c0, c1, c2, c3, c4, fz⟩ := (HH.out.below HB1.out).req HR.out
      cases e
      have f3 := fz (k * 5 + 3); have f4 := fz (k * 5 + 4)
      clear fz c0 c1 c2
      rw [hf]
      clear hf
      go_wp2_with fail
      go_ret
      obtain ⟨p1, p2⟩ := (HH.out.below HB1.out).put (by decide) (k := k) (j := 3) (r' := { r with fate := 2 }) (u := .int .i64 2) HR.out (by decide) rfl
      obtain ⟨p3, p4⟩ := p1.put (by decide) (k := k) (j := 4) (r' := { r with fate := 2, pod := pod }) (u := .int .i64 pod) (List.getElem?_set_self HK.out) (by decide) rfl
      rw [List.set_set] at p3
      refine ⟨?_, ⟨.slice (some ⟨b, 0, none⟩) l.length cap, ?_⟩, ((Tide.Chg.of_below HB1.out (Nat.le_refl _)).trans p2).trans p4⟩
      · unfold Tide.runErr; rw [HQ.out]; simp only; rw [if_pos HF.out]; rfl
      · unfold Tide.runLst; rw [HQ.out]; simp only; rw [if_pos HF.out, show ((k : Int) + 1 - 1).toNat = k by omega]; exact p3
    · have HF := Lib.hid (show RunPost 74 S w g l ((k : Int) + 1) pod (.returned (.int .i64 7)) w1 from ⟨by unfold Tide.runErr; rw [HQ.out]; simp only; rw [if_neg hf], ⟨_, by unfold Tide.runLst; rw [HQ.out]; simp only; rw [if_neg hf]; exact HH.out.below HB1.out⟩, Tide.Chg.of_below HB1.out (Nat.le_refl _)⟩)
      generalize Tide.firstN l r.source = f at hf ⊢
      have hf2 : ((k : Int) + 1 == f) = false := by simp only [beq_eq_false_iff_ne]; exact fun e => hf e.symm
      have hf3 : (f == (k : Int) + 1) = false := by simp only [beq_eq_false_iff_ne]; exact hf
      go_wp2_with fail
      go_ret
      exact HF.out

def DonePost (T : TypeId) (S : Nat → Prop) (w : World) (g : Nat) (l : List Tide.Req) (id : Int) (e : Ending) (w' : World) : Prop :=
  e = .returned (.tuple #[.int .i64 (Tide.doneNum l id), .int .i64 (Tide.doneErr l id)]) ∧ (∃ v, BAt T S w' g v (Tide.doneLst l id)) ∧ Tide.Chg S w w'
set_option maxRecDepth 100000 in
set_option maxHeartbeats 3200000 in
theorem bufDone (S : Nat → Prop) (g : Nat) (v : Value) (l : List Tide.Req) (id : Int) (w : World) (h : BAt 74 S w g v l) :
    Calls Try.prog 14 #[.pointer (some ⟨g, 0, none⟩), .int .i64 id] w (DonePost 74 S w g l id) := by
  have HH := Lib.hid h
  clear h
  cases hq : Tide.reqAt l id with
  | none =>
    have HF := Lib.hid (show DonePost 74 S w g l id (.returned (.tuple #[.int .i64 0, .int .i64 4])) w from ⟨by unfold Tide.doneErr Tide.doneNum; rw [hq], ⟨v, by unfold Tide.doneLst; rw [hq]; exact HH.out⟩, Tide.Chg.refl _ _⟩)
    have HQ := Lib.hid hq
    clear hq
    go_enter Try.func14, Try.ntmps14
    go_wp2_with fail
    refine (bufFind_none S g v l id _ HH.out HQ.out).mono ?_
    rintro e w1 ⟨rfl, rfl⟩
    go_wp2_with fail
    go_ret2
    exact HF.out
  | some r =>
    obtain ⟨k, rfl, hr⟩ := reqAt_some hq
    obtain ⟨b, cap, rfl, hS, _, _, hbl, c0, c1, c2, c3, c4, fz⟩ := HH.out.req hr
    have hkl := Tide.get_lt hr
    have f3 := fz (k * 5 + 3)
    have HR := Lib.hid hr; have HQ := Lib.hid hq; have HK := Lib.hid hkl
    clear hr hq hkl c0 c1 c2 fz hbl
    go_enter Try.func14, Try.ntmps14
    go_wp2_with fail
    refine (bufFind S g b cap _ l k _ HH.out HK.out).mono ?_
    rintro e w1 ⟨rfl, rfl⟩
    by_cases hf : r.fate = 2
    · have HF := Lib.hid hf
      rw [hf] at c3
      clear hf
      go_wp2_with fail
      go_ret2
      obtain ⟨p1, p2⟩ := HH.out.put (by decide) (k := k) (j := 3) (r' := { r with fate := 3 }) (u := .int .i64 3) HR.out (by decide) rfl
      refine ⟨?_, ⟨.slice (some ⟨b, 0, none⟩) l.length cap, ?_⟩, p2⟩
      · unfold Tide.doneErr Tide.doneNum; rw [HQ.out]; simp only; rw [if_pos HF.out, if_pos HF.out]; rfl
      · unfold Tide.doneLst; rw [HQ.out]; simp only; rw [if_pos HF.out, show ((k : Int) + 1 - 1).toNat = k by omega]; exact p1
    · have HF := Lib.hid (show DonePost 74 S w g l ((k : Int) + 1) (.returned (.tuple #[.int .i64 0, .int .i64 7])) w from ⟨by unfold Tide.doneErr Tide.doneNum; rw [HQ.out]; simp only; rw [if_neg hf, if_neg hf], ⟨_, by unfold Tide.doneLst; rw [HQ.out]; simp only; rw [if_neg hf]; exact HH.out⟩, Tide.Chg.refl _ _⟩)
      have hf3 : (r.fate == 2) = false := by simp only [beq_eq_false_iff_ne]; exact hf
      go_wp2_with fail
      go_ret2
      exact HF.out
end Go.Proofs.Ytgcdomoecikooaa
