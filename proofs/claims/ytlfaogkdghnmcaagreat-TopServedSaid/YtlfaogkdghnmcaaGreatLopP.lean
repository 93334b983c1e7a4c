/- A loop stays within its bounds: the plain law. -/
import Derived.Test.YtlfaogkdghnmcaaGreatZLopD
set_option linter.unusedVariables false
set_option linter.unusedSimpArgs false
namespace Go.Proofs.YtlfaogkdghnmcaaGreat
open Go.RowKit
set_option linter.unusedVariables false
theorem allT_keep {p : Pln} {sec have0 : Int} : ∀ {ts : List Trg} {rs : List Rd} {fs : List Int} {w : Int}, (allT p sec have0 ts rs fs (w, true)).2 = true
  | [], _, _, w => rfl
  | _ :: _, [], _, w => rfl
  | _ :: _, _ :: _, [], w => rfl
  | t :: ts, r :: rs, f :: fs, w => allT_keep (ts := ts) (rs := rs) (fs := fs)
theorem allT_hit {p : Pln} {sec have0 : Int} : ∀ {ts : List Trg} {rs : List Rd} {fs : List Int} {k : Nat} {t : Trg} {r : Rd} {f : Int} {x : Int × Bool}, ts[k]? = some t → rs[k]? = some r → fs[k]? = some f → (oneT p t f r sec have0).2 = true → (allT p sec have0 ts rs fs x).2 = true
  | [], _, _, k, _, _, _, _, h, _, _, _ => by simp at h
  | _ :: _, [], _, k, _, _, _, _, _, h, _, _ => by simp at h
  | _ :: _, _ :: _, [], k, _, _, _, _, _, _, h, _ => by simp at h
  | t :: ts, r :: rs, f :: fs, 0, _, _, _, (w, b), h1, h2, h3, h4 => by
    simp at h1 h2 h3; subst h1; subst h2; subst h3
    show (allT p sec have0 ts rs fs (_, b || (oneT p t f r sec have0).2)).2 = true
    rw [h4, Bool.or_true]
    exact allT_keep
  | t :: ts, r :: rs, f :: fs, k + 1, _, _, _, (w, b), h1, h2, h3, h4 => allT_hit (ts := ts) (rs := rs) (fs := fs) (k := k) (by simpa using h1) (by simpa using h2) (by simpa using h3) h4
/-- a trigger that may fail does so -/
def Failing (ts : List Trg) (rs : List Rd) : Prop := ∃ (i : Nat) (t : Trg) (r : Rd), ts[i]? = some t ∧ rs[i]? = some r ∧ r.failed = true ∧ t.kind ≠ 3
theorem bounds_says {l : Lp} {j : Nat} {now sec have0 : Int} {rs : List Rd} {busy : Bool} (hl : l.ok j) (hk : lookOk l now sec have0 rs.length = true) (hp : l.pause < 0) :
    l.p.mn ≤ lookN l now sec have0 rs busy ∧ lookN l now sec have0 rs busy ≤ l.p.mx ∧ (busy = true ∨ Failing l.p.trigs rs → 1 ≤ lookN l now sec have0 rs busy) := by
  have hP := planE_ok hl.plan
  obtain ⟨e1, _, _⟩ := look_fine (busy := busy) hk hp
  have hmn := hP.mn
  have hmx := hP.mx
  rw [e1]
  generalize Tide.settleN l.s now have0 ((l.seen now rs).wish now sec have0 rs busy) = x
  have ht : busy = true ∨ Failing l.p.trigs rs → ((l.seen now rs).told sec have0 rs busy).2 = true := by
    rintro (hb | ⟨i, t, r, h1, h2, h3, h4⟩)
    · subst hb; exact allT_keep
    · obtain ⟨f, hf⟩ := Tide.get_some l.fails (show i < l.fails.length by rw [hl.many]; exact Tide.get_lt h1)
      have hf0 := hl.fail f (List.mem_of_getElem? hf)
      have h5 := failsL_get h1 h2 hf
      have h6 : failOf t r f = f + 1 := by unfold failOf; rw [h3, show (t.kind == 3) = false by simpa using h4]; rfl
      rw [h6] at h5
      refine allT_hit (k := i) h1 h2 h5 ?_
      unfold oneT
      rw [if_pos (by omega)]
  generalize ((l.seen now rs).told sec have0 rs busy).2 = b at ht
  generalize ((l.seen now rs).marked now b).needed = nd
  unfold clipOf lowOf
  cases b
  · refine ⟨?_, ?_, fun h => by have := ht h; cases this⟩
    · simp only [Bool.false_eq_true, if_false]; split <;> omega
    · omega
  · simp only [if_true]
    refine ⟨?_, ?_, fun _ => ?_⟩ <;> omega
end Go.Proofs.YtlfaogkdghnmcaaGreat
