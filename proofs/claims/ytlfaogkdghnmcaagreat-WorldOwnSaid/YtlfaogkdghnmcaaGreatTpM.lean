/- What a world has done behind some happenings; the plain facts of what is asked first. -/
import Derived.Test.YtlfaogkdghnmcaaGreatWldO
import Derived.Test.YtlfaogkdghnmcaaGreatZLopC
set_option linter.unusedVariables false
set_option linter.unusedSimpArgs false
namespace Go.Proofs.YtlfaogkdghnmcaaGreat
open Go.RowKit
def stepW (m : Wo) (r : List Int) : Wo := doW m (r.getD 0 0) (r.getD 1 0) (r.getD 2 0)
def playW (m : Wo) (l : List (List Int)) : Wo := l.foldl stepW m
theorem play_snoc {m : Wo} {l : List (List Int)} {k : Nat} {r : List Int} (h : l[k]? = some r) : playW m (l.take (k + 1)) = stepW (playW m (l.take k)) r := by
  rw [Tide.take_of_get h]; unfold playW; rw [List.foldl_append]; rfl
theorem ok_play {m : Wo} {j : Nat} (h : m.ok j) (l : List (List Int)) : (playW m l).ok (j + 1000 * l.length) := by
  induction l generalizing m j with
  | nil => exact h
  | cons r l ih =>
    have := ih (ok_do h (r.getD 0 0) (r.getD 1 0) (r.getD 2 0))
    rw [show j + 1000 * (r :: l).length = j + 1000 + 1000 * l.length by simp; omega]
    exact this
theorem play_inv {P : Wo → Prop} {m : Wo} {j : Nat} (h : m.ok j) (h0 : P m) (hs : ∀ (m : Wo) (j : Nat) (k a n : Int), m.ok j → P m → P (doW m k a n)) (l : List (List Int)) : P (playW m l) := by
  induction l generalizing m j with
  | nil => exact h0
  | cons r l ih => exact ih (ok_do h (r.getD 0 0) (r.getD 1 0) (r.getD 2 0)) (hs _ _ _ _ _ h h0)
def saidR (m : Wo) : Nat → Wo
  | 0 => m
  | k + 1 => doW (doW (saidR m k) 5 0 5) 6 0 ((k : Int) + 1)
def said0 : Wo := doW (doW (newWo plainP 1 2 0) 4 0 25) 1 0 1
theorem said_nums : doE (newWo plainP 1 2 0) 4 0 25 = 0 ∧ doE (doW (newWo plainP 1 2 0) 4 0 25) 1 0 1 = 0 ∧ said0.target = 3 ∧ said0.f.length = 3 ∧
    ((List.range 25).all fun k => decide (doE (saidR said0 k) 5 0 5 = 0) && decide (doE (doW (saidR said0 k) 5 0 5) 6 0 ((k : Int) + 1) = 0)) = true ∧ (doW (saidR said0 25) 1 0 9).target = 0 ∧ (doW (saidR said0 25) 1 0 9).f.length = 0 := by decide +kernel
theorem ok_saidR {m : Wo} {j : Nat} (h : m.ok j) : ∀ k, (saidR m k).ok (j + 2000 * k)
  | 0 => h
  | k + 1 => by
    have h1 := ok_do (ok_do (ok_saidR h k) 5 0 5) 6 0 ((k : Int) + 1)
    exact h1.up (by omega)
theorem plain_ok : (newWo plainP 1 2 0).ok 0 := ok_new (by decide +kernel) (by
  intro t ht
  have e : t = plainT := by simpa [plainP] using ht
  subst e
  exact ⟨by unfold Cr.fits plainT; decide, by unfold Cr.fits plainT; decide⟩) (by omega) (by omega) (by omega)
theorem said_facts : ∃ (m1 m2 mz : Wo) (r : Nat → Wo), newWo plainP 1 2 0 = m1 ∧ doE m1 4 0 25 = 0 ∧ doW m1 4 0 25 = m2 ∧ doE m2 1 0 1 = 0 ∧ doW m2 1 0 1 = r 0 ∧ (r 0).target = 3 ∧ (r 0).f.length = 3 ∧
    (∀ k : Nat, k < 25 → doE (r k) 5 0 5 = 0 ∧ doE (doW (r k) 5 0 5) 6 0 ((k : Int) + 1) = 0 ∧ doW (doW (r k) 5 0 5) 6 0 ((k : Int) + 1) = r (k + 1)) ∧ doW (r 25) 1 0 9 = mz ∧ mz.target = 0 ∧ mz.f.length = 0 ∧ m1.ok 0 ∧ m2.ok 1000 ∧ (∀ k, k ≤ 25 → (r k).ok 60000) := by
  obtain ⟨h1, h2, h3, h4, h5, h6, h7⟩ := said_nums
  refine ⟨_, _, _, saidR said0, rfl, h1, rfl, h2, rfl, h3, h4, fun k hk => ?_, rfl, h6, h7, plain_ok, ok_do plain_ok _ _ _, fun k hk => (ok_saidR (ok_do (ok_do plain_ok 4 0 25) 1 0 1) k).up (by omega)⟩
  rw [List.all_eq_true] at h5
  have := h5 k (List.mem_range.2 hk)
  rw [Bool.and_eq_true, decide_eq_true_eq, decide_eq_true_eq] at this
  exact ⟨this.1, this.2, rfl⟩
end Go.Proofs.YtlfaogkdghnmcaaGreat
