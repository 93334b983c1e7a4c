/- Plain laws of package need: the metric of a reading grows with it; so do the pods. No program in sight. -/
import Derived.Test.YtcnoapogeohmkaaZNum
set_option linter.unusedVariables false
set_option linter.unusedSimpArgs false
namespace Tide
def picks (kind : Int) (k : Nat) (x : Int) : Bool := decide (0 < x) && (decide (kind = 1) || decide (k = 0))
def metN (kind : Int) (f : Nat → Int) : Nat → Int
  | 0 => 0
  | k + 1 => if picks kind k (f k) then addc (metN kind f k) (f k) else metN kind f k
def metM (kind : Int) (f : Nat → Int) : Nat → Nat
  | 0 => 0
  | k + 1 => if picks kind k (f k) then metM kind f k + 1 else metM kind f k
def spot (xs : List Int) (i : Nat) : Int := (xs[i]?).getD 0
theorem spot_get {xs : List Int} {i : Nat} {x : Int} (h : xs[i]? = some x) : spot xs i = x := by unfold spot; rw [h]; rfl
theorem metN_bd (kind : Int) (f : Nat → Int) (k : Nat) : 0 ≤ metN kind f k ∧ metN kind f k ≤ 1000000000000000 := by
  induction k with
  | zero => exact ⟨Int.le_refl _, by unfold metN; omega⟩
  | succ k ih =>
    unfold metN
    split
    · rename_i h
      unfold picks at h
      simp only [Bool.and_eq_true, decide_eq_true_eq] at h
      have h1 := clip_hi (clip (metN kind f k) + clip (f k))
      have h2 := clip_nonneg (show 0 ≤ clip (metN kind f k) + clip (f k) by
        have := clip_nonneg ih.1; have := clip_nonneg (show 0 ≤ f k by omega); omega)
      exact ⟨h2, h1⟩
    · exact ih
theorem metM_le (kind : Int) (f : Nat → Int) (k : Nat) : metM kind f k ≤ k := by
  induction k with
  | zero => exact Nat.le_refl _
  | succ k ih => unfold metM; split <;> omega
theorem picks_mono {kind : Int} {k : Nat} {x y : Int} (h : x ≤ y) (hp : picks kind k x = true) : picks kind k y = true := by
  unfold picks at hp ⊢
  simp only [Bool.and_eq_true, decide_eq_true_eq] at hp ⊢
  exact ⟨by omega, hp.2⟩
theorem addc_le {a b x y : Int} (h1 : a ≤ b) (h2 : x ≤ y) : addc a x ≤ addc b y := clip_mono (by have := clip_mono h1; have := clip_mono h2; omega)
theorem le_addc {b y : Int} (h0 : 0 ≤ b) (h1 : b ≤ 1000000000000000) (hy : 0 < y) : b ≤ addc b y := by
  unfold addc
  rw [clip_id (n := b) (by omega) h1]
  have := clip_nonneg (show 0 ≤ y by omega)
  have h2 := clip_mono (show b ≤ b + clip y by omega)
  rw [clip_id (n := b) (by omega) h1] at h2
  exact h2
theorem met_mono {kind : Int} {f g : Nat → Int} (h : ∀ i, f i ≤ g i) (k : Nat) : metN kind f k ≤ metN kind g k ∧ metM kind f k ≤ metM kind g k := by
  induction k with
  | zero => exact ⟨Int.le_refl _, Nat.le_refl _⟩
  | succ k ih =>
    unfold metN metM
    cases hf : picks kind k (f k)
    · cases hg : picks kind k (g k)
      · exact ih
      · have hp : 0 < g k := by unfold picks at hg; simp only [Bool.and_eq_true, decide_eq_true_eq] at hg; exact hg.1
        have hb := metN_bd kind g k
        have := le_addc hb.1 hb.2 hp
        simp only [if_true, if_false, Bool.false_eq_true]
        exact ⟨by omega, by omega⟩
    · rw [picks_mono (h k) hf]
      simp only [if_true]
      exact ⟨addc_le ih.1 (h k), by omega⟩
theorem ceil_mono {a a' b : Int} (h : a ≤ a') (hb : 1 ≤ b) : ceilc a b ≤ ceilc a' b := by
  unfold ceilc
  have h1 := clip_mono h
  have h2 : -clip a' ≤ -clip a := by omega
  have h3 := Int.ediv_le_ediv (show 0 < clip b by have := clip_one hb; omega) h2
  omega
theorem ceil_zero {b : Int} (hb : 1 ≤ b) : ceilc 0 b = 0 := by
  unfold ceilc
  rw [clip_id (n := 0) (by omega) (by omega)]
  simp
theorem ceil_pos {a b : Int} (h : 0 ≤ a) (hb : 1 ≤ b) : 0 ≤ ceilc a b := by
  have := ceil_mono h hb
  rw [ceil_zero hb] at this
  exact this
/-- with the tolerance grows what is let by -/
theorem share_mono {a m m' : Int} (h : m ≤ m') : sharec a m ≤ sharec a m' := by
  unfold sharec
  refine clip_mono (Int.ediv_le_ediv (by omega) ?_)
  exact Int.mul_le_mul_of_nonneg_left (clip_mono (by omega)) (pos_lo a)
end Tide
