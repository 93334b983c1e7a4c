/- Plain laws of LoopFails and LoopCools. -/
import Derived.Test.YtcnoapogeohmkaaLopJ
import Derived.Test.YtcnoapogeohmkaaLopG
import Derived.Test.YtcnoapogeohmkaaStbY
import Derived.Test.YtcnoapogeohmkaaBld
set_option linter.unusedVariables false
set_option linter.unusedSimpArgs false
namespace Go.Proofs.Ytcnoapogeohmkaa
open Go.RowKit
set_option linter.unusedVariables false
def failP (mn back after : Int) : Pln := ⟨⟨#[112]⟩, mn, 9, 2, 6, 0, back, after, 0, ⟨0, 0, 0, 0⟩, ⟨0, 0, 0, 0⟩, [plainT]⟩
theorem failP_ok {mn back after : Int} (a : 0 ≤ mn ∧ mn ≤ 4) (b : 0 ≤ back ∧ back ≤ 14) (c : 0 ≤ after ∧ after ≤ 5) : planE (failP mn back after) = 0 := by
  have h1 : nameOk (failP mn back after).name = true := by show nameOk ⟨#[112]⟩ = true; decide +kernel
  have h2 : (failP mn back after).nums = true := by
    unfold Pln.nums
    simp only [Bool.and_eq_true, wiB_iff]
    refine ⟨⟨?_, ?_⟩, ⟨?_, ?_⟩, ⟨?_, ?_⟩, ⟨?_, ?_⟩, ⟨?_, ?_⟩, ⟨?_, ?_⟩, ⟨?_, ?_⟩, ⟨?_, ?_⟩, (show paceOk ⟨0, 0, 0, 0⟩ = true by decide +kernel), (show paceOk ⟨0, 0, 0, 0⟩ = true by decide +kernel)⟩ <;> simp only [failP] <;> omega
  have h3 : trigsE (failP mn back after).trigs = 0 := by show trigsE [plainT] = 0; decide +kernel
  unfold planE
  rw [h1, h2, if_neg (by decide), if_neg (by show ¬ 5 < 1; omega), if_neg (by decide)]
  exact h3
structure FInv (P : Pln) (i : Nat) (l : Lp) : Prop where
  p : l.p = P
  fails : l.fails = [(i : Int)]
  pause : l.pause = -1
  last : l.last ≤ (i : Int)
  ok : l.ok i
  free : Free l.s
theorem failP_new {mn back after : Int} (a : 0 ≤ mn ∧ mn ≤ 4) (b : 0 ≤ back ∧ back ≤ 14) (c : 0 ≤ after ∧ after ≤ 5) (hf : ∀ t ∈ (failP mn back after).trigs, t.fits) : FInv (failP mn back after) 0 (newLp (failP mn back after)) :=
  ⟨rfl, rfl, rfl, Int.le_refl _, newLp_ok (failP_ok a b c) hf, (show Free ⟨Tide.Pace.fix ⟨0, 0, 0, 0⟩, Tide.Pace.fix ⟨0, 0, 0, 0⟩, 0, [], []⟩ by unfold Free; decide +kernel)⟩
theorem fail_step {mn back after h : Int} {i : Nat} {l : Lp} (a : 0 ≤ mn ∧ mn ≤ 4) (b : 0 ≤ back ∧ back ≤ 14) (hi : i ≤ 6) (h0 : 0 ≤ h) (h1 : h ≤ 11) (H : FInv (failP mn back after) i l) :
    lookN l i 0 h [⟨true, []⟩] false = min (max (max (if 0 < after ∧ after ≤ (i : Int) + 1 then back else h) mn) 1) 9 ∧ lookE l i 0 h 1 = 0 ∧ FInv (failP mn back after) (i + 1) (lookL l i 0 h [⟨true, []⟩] false) := by
  obtain ⟨hp, hf, hpa, hl, hok, hfr⟩ := H
  have hk : lookOk l i 0 h 1 = true := lookOk_iff.2 ⟨hl, by omega, by omega, by omega, h0, by omega, by rw [hp]; rfl⟩
  obtain ⟨e1, e2, e3⟩ := look_fine (rs := [⟨true, []⟩]) (busy := false) (show lookOk l i 0 h ([⟨true, []⟩] : List Rd).length = true from hk) (by rw [hpa]; omega)
  have hsf : (l.seen i [⟨true, []⟩]).fails = [(i : Int) + 1] := by
    show failsL l.p.trigs _ l.fails = _
    rw [hp, hf]; rfl
  have hone : oneT (failP mn back after) plainT ((i : Int) + 1) ⟨true, []⟩ 0 h = (if 0 < after ∧ after ≤ (i : Int) + 1 then back else h, true) := by
    unfold oneT; rw [if_pos (by omega)]; rfl
  have ht : (l.seen i [⟨true, []⟩]).told 0 h [⟨true, []⟩] false = (max 0 (if 0 < after ∧ after ≤ (i : Int) + 1 then back else h), true) := by
    unfold Lp.told
    rw [hsf]
    show allT l.p 0 h l.p.trigs _ _ _ = _
    rw [hp]
    show (max 0 (oneT (failP mn back after) plainT ((i : Int) + 1) ⟨true, []⟩ 0 h).1, false || (oneT (failP mn back after) plainT ((i : Int) + 1) ⟨true, []⟩ 0 h).2) = _
    rw [hone]; rfl
  generalize hw : (if 0 < after ∧ after ≤ (i : Int) + 1 then back else h) = want at *
  have hwb : 0 ≤ want ∧ want ≤ 14 := by rw [← hw]; split <;> omega
  have hlow : ∀ nd, lowOf l.p nd i h true = max mn 1 := fun nd => by rw [hp]; rfl
  have hwish : (l.seen i [⟨true, []⟩]).wish i 0 h [⟨true, []⟩] false = min (max (max want mn) 1) 9 := by
    unfold Lp.wish
    rw [ht]
    show clipOf (lowOf l.p _ i h true) l.p.mx (max 0 want) = _
    rw [hlow, hp]
    show min (max (max 0 want) (max mn 1)) 9 = _
    omega
  have hsl := hok.sl
  have hset : Tide.settleN l.s i h (min (max (max want mn) 1) 9) = min (max (max want mn) 1) 9 := free_says hok.st hfr (by
    unfold Tide.settleOk
    rw [decide_eq_true (show l.s.last ≤ (i : Int) by omega), decide_eq_true (show (i : Int) ≤ 1099511627776 by omega), decide_eq_true h0, decide_eq_true (show h ≤ 50 by omega), decide_eq_true (show 0 ≤ min (max (max want mn) 1) 9 by omega), decide_eq_true (show min (max (max want mn) 1) 9 ≤ 50 by omega)]; rfl)
  refine ⟨?_, e2, ?_⟩
  · rw [e1, hwish, hset, ht]
    show clipOf (lowOf l.p _ i h true) l.p.mx _ = _
    rw [hlow, hp]
    show min (max (min (max (max want mn) 1) 9) (max mn 1)) 9 = _
    omega
  · refine ⟨by rw [lookL_p]; exact hp, ?_, ?_, ?_, look_ok hok, ?_⟩
    · rw [e3, ht]; show (l.seen i _).fails = _; rw [hsf]; simp
    · rw [e3, ht]; exact hpa
    · rw [e3, ht]; show (i : Int) ≤ _; omega
    · rw [e3]; exact free_next hfr
/-- behind a look that went well nothing fails -/
theorem fail_last {mn back after h : Int} {l : Lp} (h0 : 0 ≤ h) (h1 : h ≤ 11) (H : FInv (failP mn back after) 7 l) : failsAt (lookL l 9 0 h [⟨false, [0]⟩] false) 0 = 0 := by
  obtain ⟨hp, hf, hpa, hl, hok, hfr⟩ := H
  have hk : lookOk l 9 0 h 1 = true := lookOk_iff.2 ⟨by omega, by omega, by omega, by omega, h0, by omega, by rw [hp]; rfl⟩
  obtain ⟨_, _, e3⟩ := look_fine (rs := [⟨false, [0]⟩]) (busy := false) (show lookOk l 9 0 h ([⟨false, [0]⟩] : List Rd).length = true from hk) (by rw [hpa]; omega)
  have hsf : (l.seen 9 [⟨false, [0]⟩]).fails = [0] := by
    show failsL l.p.trigs _ l.fails = _
    rw [hp, hf]; rfl
  have : (lookL l 9 0 h [⟨false, [0]⟩] false).fails = [0] := by
    rw [e3]
    cases ((l.seen 9 [⟨false, [0]⟩]).told 0 h [⟨false, [0]⟩] false).2 <;> exact hsf
  unfold failsAt
  rw [this]; rfl
theorem fails_now {P : Pln} {i : Nat} {l : Lp} (H : FInv P i l) : failsAt l 0 = i := by
  unfold failsAt
  rw [H.fails]; rfl
structure CInv (P : Pln) (k : Nat) (now needed : Int) (l : Lp) : Prop where
  p : l.p = P
  none : P.trigs = []
  pause : l.pause = -1
  last : l.last ≤ now
  need : l.needed = needed
  ok : l.ok k
theorem cool_new {P : Pln} (h : planE P = 0) (hn : P.trigs = []) : CInv P 0 0 0 (newLp P) := ⟨rfl, hn, rfl, Int.le_refl _, rfl, newLp_ok h (by rw [hn]; intro t ht; cases ht)⟩
theorem cool_step {P : Pln} {k : Nat} {now now' needed have0 : Int} {l : Lp} {is : Bool} (H : CInv P k now needed l) (hn : now ≤ now') (hb : now' ≤ 1000000000) (h0 : 1 ≤ have0) (h1 : have0 ≤ 50) :
    lookE l now' 0 have0 0 = 0 ∧ (0 ≤ lookN l now' 0 have0 [] is ∧ lookN l now' 0 have0 [] is ≤ 50) ∧
    (lookN l now' 0 have0 [] is = 0 → is = false ∧ P.cool ≤ now' - (if is then now' else needed) ∧ P.mn ≤ 0) ∧
    CInv P (k + 1) now' (if is then now' else needed) (lookL l now' 0 have0 [] is) := by
  obtain ⟨hp, hnil, hpa, hl, hne, hok⟩ := H
  have hP := planE_ok (hp ▸ hok.plan)
  have hk : lookOk l now' 0 have0 0 = true := lookOk_iff.2 ⟨by omega, by omega, by omega, by omega, by omega, h1, by rw [hp, hnil]; rfl⟩
  obtain ⟨e1, e2, e3⟩ := look_fine (rs := []) (busy := is) (show lookOk l now' 0 have0 ([] : List Rd).length = true from hk) (by rw [hpa]; omega)
  have ht : (l.seen now' []).told 0 have0 [] is = (0, is) := by
    unfold Lp.told
    show allT l.p 0 have0 l.p.trigs [] _ (0, is) = _
    rw [hp, hnil]; rfl
  have hmn := hP.mn
  have hmx := hP.mx
  have hco := hP.cool
  generalize hx : Tide.settleN l.s now' have0 ((l.seen now' []).wish now' 0 have0 [] is) = x at *
  have hN : lookN l now' 0 have0 [] is = clipOf (lowOf P ((l.seen now' []).marked now' is).needed now' have0 is) P.mx x := by rw [e1, ht, hp]
  have hneed : ((l.seen now' []).marked now' is).needed = if is then now' else needed := by cases is <;> first | rfl | exact hne
  refine ⟨e2, ?_, ?_, ?_⟩
  · rw [hN]; exact clipOf_bd (lowOf_nonneg hmn.1 _ _ _ _) (by omega) (by omega)
  · intro hz
    rw [hN, hneed] at hz
    cases is
    · simp only [Bool.false_eq_true, if_false] at hz ⊢
      refine ⟨by simp, ?_⟩
      unfold lowOf clipOf at hz
      simp only [Bool.false_eq_true, if_false] at hz
      split at hz <;> omega
    · exfalso
      unfold lowOf clipOf at hz
      simp only [if_true] at hz
      omega
  · refine ⟨by rw [lookL_p]; exact hp, hnil, ?_, ?_, ?_, look_ok hok⟩
    · rw [e3, ht]; cases is <;> exact hpa
    · rw [e3, ht]; cases is <;> exact Int.le_refl _
    · rw [e3, ht]; cases is <;> first | exact hne | rfl
end Go.Proofs.Ytcnoapogeohmkaa
