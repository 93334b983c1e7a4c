/- Plain facts on numbers that stop growing (package num and its reference): no program in sight. The contracts of package num and of its reference: what each call answers, as a plain function of numbers; the world stays as it is. -/
import Derived.Test.YthelnkoohbnjpaaDoorRows
import Derived.WalkKit
import Derived.WalkSpells
import Derived.WalkLawsBesides
import Derived.Lib.Hide

set_option linter.unusedVariables false
set_option linter.unusedSimpArgs false
namespace Tide

def clip (n : Int) : Int := if 1000000000000000 < n then 1000000000000000 else if n < -1000000000000000 then -1000000000000000 else n
theorem clip_lo (n : Int) : -1000000000000000 ≤ clip n := by unfold clip; split <;> (try split) <;> omega
theorem clip_hi (n : Int) : clip n ≤ 1000000000000000 := by unfold clip; split <;> (try split) <;> omega
theorem clip_id {n : Int} (h0 : -1000000000000000 ≤ n) (h1 : n ≤ 1000000000000000) : clip n = n := by unfold clip; split <;> (try split) <;> omega
theorem clip_clip (n : Int) : clip (clip n) = clip n := clip_id (clip_lo n) (clip_hi n)
theorem clip_top {n : Int} (h : 1000000000000000 ≤ n) : clip n = 1000000000000000 := by unfold clip; split <;> (try split) <;> omega
theorem clip_bot {n : Int} (h : n ≤ -1000000000000000) : clip n = -1000000000000000 := by unfold clip; split <;> (try split) <;> omega
theorem clip_spec (n : Int) : (n ≤ -1000000000000000 ∧ clip n = -1000000000000000) ∨ (1000000000000000 ≤ n ∧ clip n = 1000000000000000) ∨ (-1000000000000000 ≤ n ∧ n ≤ 1000000000000000 ∧ clip n = n) := by
  unfold clip; split <;> (try split) <;> omega
theorem clip_mono {a b : Int} (h : a ≤ b) : clip a ≤ clip b := by have := clip_spec a; have := clip_spec b; omega
theorem clip_neg (n : Int) : clip (-n) = -clip n := by have := clip_spec n; have := clip_spec (-n); omega
theorem clip_nonneg {n : Int} (h : 0 ≤ n) : 0 ≤ clip n := by unfold clip; split <;> (try split) <;> omega

def addc (a b : Int) : Int := clip (clip a + clip b)
def subc (a b : Int) : Int := clip (clip a - clip b)
def mulc (a b : Int) : Int := clip (clip a * clip b)
/-- floor of a by b, cut as Go cuts -/
def ceilc (a b : Int) : Int := -((-clip a) / clip b)
def pos (n : Int) : Int := clip (max n 0)
def sharec (a m : Int) : Int := clip (pos a * pos m / 1000)

theorem pos_lo (n : Int) : 0 ≤ pos n := by unfold pos; exact clip_nonneg (by omega)
theorem pos_hi (n : Int) : pos n ≤ 1000000000000000 := clip_hi _
theorem pos_eq (n : Int) : max (clip n) 0 = pos n := by
  unfold pos; have := clip_spec n; have := clip_spec (max n 0); omega

/-! products -/
theorem le_div {x y : Int} (hy : 0 < y) : x ≤ 1000000000000000 / y ↔ x * y ≤ 1000000000000000 := Int.le_ediv_iff_mul_le hy

theorem mul_in {a b x y : Int} (hx : x = max a (-a)) (hy : y = max b (-b)) (hb : b ≠ 0) (h : x ≤ 1000000000000000 / y) : clip (a * b) = a * b := by
  have hy0 : 0 < y := by omega
  rw [le_div hy0] at h
  have e : (a * b).natAbs = (x * y).natAbs := by
    rw [Int.natAbs_mul, Int.natAbs_mul]
    have h1 : a.natAbs = x.natAbs := by omega
    have h2 : b.natAbs = y.natAbs := by omega
    rw [h1, h2]
  have h0 : 0 ≤ x * y := Int.mul_nonneg (by omega) (by omega)
  apply clip_id <;> omega

theorem mul_out {a b x y : Int} (hx : x = max a (-a)) (hy : y = max b (-b)) (hb : b ≠ 0) (h : ¬ x ≤ 1000000000000000 / y) :
    clip (a * b) = if decide (a < 0) = decide (b < 0) then 1000000000000000 else -1000000000000000 := by
  have hy0 : 0 < y := by omega
  rw [le_div hy0] at h
  by_cases ha : a < 0 <;> by_cases hb' : b < 0 <;> simp only [ha, hb', decide_true, decide_false, if_true, Bool.true_eq_false, Bool.false_eq_true, if_false]
  · have e : x * y = a * b := by rw [show x = -a by omega, show y = -b by omega]; exact Int.neg_mul_neg a b
    exact clip_top (by omega)
  · have e : x * y = -(a * b) := by rw [show x = -a by omega, show y = b by omega]; exact Int.neg_mul a b
    exact clip_bot (by omega)
  · have e : x * y = -(a * b) := by rw [show x = a by omega, show y = -b by omega]; exact Int.mul_neg a b
    exact clip_bot (by omega)
  · have e : x * y = a * b := by rw [show x = a by omega, show y = b by omega]
    exact clip_top (by omega)

theorem addc_comm (a b : Int) : addc a b = addc b a := by unfold addc; rw [Int.add_comm]
theorem mulc_comm (a b : Int) : mulc a b = mulc b a := by unfold mulc; rw [Int.mul_comm]
theorem subc_self (a : Int) : subc a a = 0 := by unfold subc; rw [Int.sub_self]; rfl
theorem mulc_one (a : Int) : mulc a 1 = clip a := by
  unfold mulc; rw [show clip 1 = 1 from rfl, Int.mul_one, clip_clip]
theorem addc_mono {a b c : Int} (h : clip c ≤ clip a) : addc c b ≤ addc a b := clip_mono (by omega)
theorem subc_mono {a b c : Int} (h : clip c ≤ clip a) : subc b a ≤ subc b c := clip_mono (by omega)
theorem mulc_mono {a b c : Int} (h : clip c ≤ clip a) (hb : 0 ≤ b) : mulc c b ≤ mulc a b :=
  clip_mono (Int.mul_le_mul_of_nonneg_right h (clip_nonneg hb))
theorem mulc_zero_left {a b : Int} (h : clip a = 0) : mulc a b = 0 := by unfold mulc; rw [h, Int.zero_mul]; rfl
theorem mulc_zero_right {a b : Int} (h : clip b = 0) : mulc a b = 0 := by unfold mulc; rw [h, Int.mul_zero]; rfl

/-! ceil -/
theorem clip_one {b : Int} (h : 1 ≤ b) : 1 ≤ clip b := by unfold clip; split <;> (try split) <;> omega
theorem ceil_euclid (a : Int) {b : Int} (h : 1 ≤ b) : clip a ≤ ceilc a b * clip b ∧ (ceilc a b - 1) * clip b < clip a := by
  have hb := clip_one h
  unfold ceilc
  generalize clip a = x
  generalize clip b = y at hb
  have h1 := Int.emod_nonneg (-x) (show y ≠ 0 by omega)
  have h2 := Int.emod_lt_of_pos (-x) (show 0 < y by omega)
  have h3 := Int.mul_ediv_add_emod (-x) y
  generalize -x / y = q at *
  have e1 : -q * y = -(y * q) := by rw [Int.neg_mul, Int.mul_comm]
  have e2 : (-q - 1) * y = -(y * q) - y := by rw [Int.sub_mul, e1]; omega
  rw [e1, e2]; omega
theorem ceil_lo (a : Int) {b : Int} (h : 1 ≤ b) : -1000000000000000 ≤ ceilc a b := by
  have h1 := ceil_euclid a h; have hb := clip_one h; have := clip_lo a
  rcases Int.lt_or_le (ceilc a b) (-1000000000000000) with hc | hc
  · have : ceilc a b * clip b ≤ ceilc a b * 1 := Int.mul_le_mul_of_nonpos_left (by omega) hb
    omega
  · exact hc
theorem ceil_hi (a : Int) {b : Int} (h : 1 ≤ b) : ceilc a b ≤ 1000000000000000 := by
  have h1 := ceil_euclid a h; have hb := clip_one h; have := clip_hi a
  rcases Int.lt_or_le 1000000000000000 (ceilc a b) with hc | hc
  · have : (ceilc a b - 1) * 1 ≤ (ceilc a b - 1) * clip b := Int.mul_le_mul_of_nonneg_left hb (by omega)
    omega
  · exact hc

theorem lt_of_mul {p q y : Int} (hy : 0 < y) (h : p * y < q * y) : p < q := Int.lt_of_mul_lt_mul_right h (by omega)
theorem ceil_tdiv (a : Int) {b : Int} (h : 1 ≤ b) : ceilc a b - 1 ≤ (clip a).tdiv (clip b) ∧ (clip a).tdiv (clip b) ≤ ceilc a b := by
  have hb := clip_one h
  obtain ⟨h1, h2⟩ := ceil_euclid a h
  generalize ceilc a b = c at *
  generalize clip a = x at *
  generalize clip b = y at *
  have h3 := Int.mul_tdiv_add_tmod x y
  have h4 := Int.tmod_lt_of_pos x (show 0 < y by omega)
  have h5 : -y < x.tmod y := by
    have := Int.tmod_lt_of_pos (-x) (show 0 < y by omega)
    rw [Int.neg_tmod] at this; omega
  generalize x.tdiv y = d at *
  generalize x.tmod y = r at *
  rw [Int.mul_comm] at h3
  have hm : (c - 1) * y = c * y - y := by rw [Int.sub_mul]; omega
  constructor
  · have : (c - 1) * y < (d + 1) * y := by rw [Int.add_mul]; omega
    have := lt_of_mul (by omega) this
    omega
  · have : d * y < (c + 1) * y := by rw [Int.add_mul]; omega
    have := lt_of_mul (by omega) this
    omega
/-- n between: the product stays small, and it reaches a just at the end -/
theorem ceil_near (a : Int) {b n : Int} (h : 1 ≤ b) (h1 : ceilc a b - 1 ≤ n) (h2 : n ≤ ceilc a b) :
    -2000000000000000 ≤ n * clip b ∧ n * clip b ≤ 2000000000000000 ∧ (n * clip b < clip a → n < ceilc a b) ∧ (clip a ≤ n * clip b → n = ceilc a b) := by
  have hb := clip_one h; have hb' := clip_hi b; have ha := clip_hi a; have ha' := clip_lo a
  obtain ⟨e1, e2⟩ := ceil_euclid a h
  have hm : (ceilc a b - 1) * clip b = ceilc a b * clip b - clip b := by rw [Int.sub_mul]; omega
  obtain rfl | rfl : n = ceilc a b - 1 ∨ n = ceilc a b := by omega
  · refine ⟨by omega, by omega, by omega, by omega⟩
  · refine ⟨by omega, by omega, by omega, fun _ => rfl⟩

/-! share -/
theorem share_split (a m : Int) :
    a * m / 1000 = a / 1000 * m + a % 1000 * (m / 1000) + a % 1000 * (m % 1000) / 1000 := by
  have e1 := Int.mul_ediv_add_emod a 1000
  have e2 := Int.mul_ediv_add_emod m 1000
  generalize a / 1000 = n at *
  generalize a % 1000 = r at *
  generalize hk : m / 1000 = k at *
  generalize hl : m % 1000 = l at *
  have : a * m = r * l + (n * m + r * k) * 1000 := by
    rw [← e1, Int.add_mul]
    have : r * m = r * l + r * k * 1000 := by rw [← e2, Int.mul_add, Int.mul_left_comm, Int.mul_comm 1000]; omega
    rw [this, Int.mul_assoc, Int.mul_comm 1000, Int.add_mul]; omega
  rw [this, Int.add_mul_ediv_right _ _ (by omega)]
  omega
theorem clip_add {x y : Int} (hx : 0 ≤ x) (hy : 0 ≤ y) : clip (clip x + y) = clip (x + y) := by
  have := clip_spec x; have := clip_spec (clip x + y); have := clip_spec (x + y); omega
theorem share_eq (a m : Int) (ha : 0 ≤ a) (hm : 0 ≤ m) (ha' : a ≤ 1000000000000000) (hm' : m ≤ 1000000000000000) :
    clip (clip (mulc (a / 1000) m + mulc (a % 1000) (m / 1000)) + a % 1000 * (m % 1000) / 1000) = clip (a * m / 1000) := by
  rw [share_split a m]
  have h1 : 0 ≤ a / 1000 * m := Int.mul_nonneg (by omega) hm
  have h2 : 0 ≤ a % 1000 * (m / 1000) := Int.mul_nonneg (by omega) (by omega)
  have h3 : 0 ≤ a % 1000 * (m % 1000) := Int.mul_nonneg (by omega) (by omega)
  unfold mulc
  rw [clip_id (n := a / 1000) (by omega) (by omega), clip_id (n := m) (by omega) (by omega), clip_id (n := a % 1000) (by omega) (by omega), clip_id (n := m / 1000) (by omega) (by omega)]
  have e : clip (clip (a / 1000 * m) + clip (a % 1000 * (m / 1000))) = clip (a / 1000 * m + a % 1000 * (m / 1000)) := by
    rw [clip_add h1 (clip_nonneg h2), Int.add_comm, clip_add h2 h1, Int.add_comm]
  rw [e, clip_add (by omega) (by omega)]

theorem sharec_of {a m : Int} (ha : 0 ≤ a) (hm : 0 ≤ m) (ha' : a ≤ 2000000000) (hm' : m ≤ 100000) : sharec a m = a * m / 1000 := by
  have e1 : pos a = a := by unfold pos; rw [show max a 0 = a by omega]; exact clip_id (by omega) (by omega)
  have e2 : pos m = m := by unfold pos; rw [show max m 0 = m by omega]; exact clip_id (by omega) (by omega)
  unfold sharec
  rw [e1, e2]
  have h1 : 0 ≤ a * m := Int.mul_nonneg ha hm
  have h2 : a * m ≤ 2000000000 * 100000 := Int.mul_le_mul ha' hm' hm (by omega)
  exact clip_id (by omega) (by omega)

/-! the reference's product, digit by digit: behind the digits that p leaves -/
theorem digit_step {a q n : Int} (ha : 0 ≤ a) (hq : 0 ≤ q) (hn : n = clip (a * q)) : clip (n * 10) = clip (a * (q * 10)) := by
  have h0 : 0 ≤ a * q := Int.mul_nonneg ha hq
  rw [hn, ← Int.mul_assoc]
  generalize a * q = z at *
  have := clip_spec z; have := clip_spec (clip z * 10); have := clip_spec (z * 10); omega
theorem digit_add {a q n : Int} (ha : 0 ≤ a) (hq : 0 ≤ q) (hn : n = clip (a * q)) : clip (n + a) = clip (a * (q + 1)) := by
  have h0 : 0 ≤ a * q := Int.mul_nonneg ha hq
  rw [hn, clip_add h0 ha, Int.mul_add, Int.mul_one]

def tens (p : Int) : Prop := p = 1000000000000000 ∨ p = 100000000000000 ∨ p = 10000000000000 ∨ p = 1000000000000 ∨ p = 100000000000 ∨ p = 10000000000 ∨ p = 1000000000 ∨ p = 100000000 ∨ p = 10000000 ∨ p = 1000000 ∨ p = 100000 ∨ p = 10000 ∨ p = 1000 ∨ p = 100 ∨ p = 10 ∨ p = 1
theorem tens_step {p : Int} (h : tens p) : (p = 1) ∨ (tens (p / 10) ∧ p / 10 * 10 = p) := by
  unfold tens at *
  rcases h with rfl | rfl | rfl | rfl | rfl | rfl | rfl | rfl | rfl | rfl | rfl | rfl | rfl | rfl | rfl | rfl <;> simp
theorem tens_top : tens 1000000000000000 := .inl rfl
theorem tens_bd {p : Int} (h : tens p) : 1 ≤ p ∧ p ≤ 1000000000000000 := by unfold tens at h; omega
/-- at the head of the round of p: the digits ahead of p's are in -/
def mulAt (A B p n : Int) : Prop := (tens p ∧ n = clip (A * (B / p / 10))) ∨ (p = 0 ∧ n = clip (A * B))
theorem mulAt_start (A : Int) {B : Int} (h0 : 0 ≤ B) (h1 : B ≤ 1000000000000000) : mulAt A B 1000000000000000 0 := by
  refine .inl ⟨tens_top, ?_⟩
  rw [show B / 1000000000000000 / 10 = 0 by omega, Int.mul_zero]; rfl
theorem mulAt_next {A B p n : Int} (hp : tens p) (hn : n = clip (A * (B / p))) : mulAt A B (p / 10) n := by
  rcases tens_step hp with rfl | ⟨h1, h2⟩
  · refine .inr ⟨rfl, ?_⟩
    rw [hn, Int.ediv_one]
  · refine .inl ⟨h1, ?_⟩
    rw [hn, Int.ediv_ediv_of_nonneg (show 0 ≤ p / 10 by have := tens_bd h1; omega), h2]
theorem mulAt_bd {A B p n : Int} (h : mulAt A B p n) : -1000000000000000 ≤ n ∧ n ≤ 1000000000000000 := by
  rcases h with ⟨_, rfl⟩ | ⟨_, rfl⟩ <;> exact ⟨clip_lo _, clip_hi _⟩
theorem sign_cases (x : Int) : (x < 0 ∧ ∃ A, -x = A ∧ 0 ≤ A) ∨ (¬ x < 0 ∧ ∃ A, x = A ∧ 0 ≤ A) := by
  by_cases h : x < 0
  · exact .inl ⟨h, _, rfl, by omega⟩
  · exact .inr ⟨h, _, rfl, by omega⟩

end Tide


namespace Go.Proofs.YthelnkoohbnjpaaDoor
open Go.RowKit
theorem ret_int {k : IntKind} {a b : Int} (h : a = b) : Ending.returned (.int k a) = .returned (.int k b) := by rw [h]







end Go.Proofs.YthelnkoohbnjpaaDoor
