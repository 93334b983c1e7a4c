/- Plain facts on numbers that stop growing (package num and its reference): no program in sight. The contracts of package num and of its reference: what each call answers, as a plain function of numbers; the world stays as it is. The contracts of the reference's numbers (Mul digit by digit, Ceil, Share). The walks of the laws on numbers: NumCeil, NumLaws, NumShare, NumSays answer true at every input. -/
import Derived.Test.YtcnoapogeohmkaaRows
import Derived.WalkKit
import Derived.WalkSpells
import Derived.WalkLawsBesides
import Derived.Lib.Hide
import Derived.OpenShut
import Derived.Handy

set_option linter.unusedVariables false
set_option linter.unusedSimpArgs false
namespace Tide

def clip (n : Int) : Int := if 1000000000000000 < n then 1000000000000000 else if n < -1000000000000000 then -1000000000000000 else n
theorem clip_lo (n : Int) : -1000000000000000 ≤ clip n := by unfold clip; split <;> (try split) <;> omega
theorem clip_hi (n : Int) : clip n ≤ 1000000000000000 := by unfold clip; split <;> (try split) <;> omega
theorem clip_id {n : Int} (h0 : -1000000000000000 ≤ n) (h1 : n ≤ 1000000000000000) : clip n = n := by unfold clip; split <;> (try split) <;> omega
theorem clip_clip (n : Int) : clip (clip n) = clip n := clip_id (clip_lo n) (clip_hi n)
theorem clip_top {n : Int} (h : 1000000000000000 ≤ n) : clip n = 1000000000000000 := by unfold clip; split <;> (try split) <;> omega
theorem clip_bot {n : Int} (h : n ≤ -1000000000000000) : clip n = -1000000000000000 := by unfold clip; split <;> (try split) <;> omega
theorem clip_spec (n : Int) : (n ≤ -1000000000000000 ∧ clip n = -1000000000000000) ∨ (1000000000000000 ≤ n ∧ clip n = 1000000000000000) ∨ (-1000000000000000 ≤ n ∧ n ≤ 1000000000000000 ∧ clip n = n) := by
  unfold clip; split <;> (try split) <;> omega
theorem clip_mono {a b : Int} (h : a ≤ b) : clip a ≤ clip b := by have := clip_spec a; have := clip_spec b; omega
theorem clip_neg (n : Int) : clip (-n) = -clip n := by have := clip_spec n; have := clip_spec (-n); omega
theorem clip_nonneg {n : Int} (h : 0 ≤ n) : 0 ≤ clip n := by unfold clip; split <;> (try split) <;> omega

def addc (a b : Int) : Int := clip (clip a + clip b)
def subc (a b : Int) : Int := clip (clip a - clip b)
def mulc (a b : Int) : Int := clip (clip a * clip b)
/-- floor of a by b, cut as Go cuts -/
def ceilc (a b : Int) : Int := -((-clip a) / clip b)
def pos (n : Int) : Int := clip (max n 0)
def sharec (a m : Int) : Int := clip (pos a * pos m / 1000)

theorem pos_lo (n : Int) : 0 ≤ pos n := by unfold pos; exact clip_nonneg (by omega)
theorem pos_hi (n : Int) : pos n ≤ 1000000000000000 := clip_hi _
theorem pos_eq (n : Int) : max (clip n) 0 = pos n := by
  unfold pos; have := clip_spec n; have := clip_spec (max n 0); omega

/-! products -/
theorem le_div {x y : Int} (hy : 0 < y) : x ≤ 1000000000000000 / y ↔ x * y ≤ 1000000000000000 := Int.le_ediv_iff_mul_le hy

theorem mul_in {a b x y : Int} (hx : x = max a (-a)) (hy : y = max b (-b)) (hb : b ≠ 0) (h : x ≤ 1000000000000000 / y) : clip (a * b) = a * b := by
  have hy0 : 0 < y := by omega
  rw [le_div hy0] at h
  have e : (a * b).natAbs = (x * y).natAbs := by
    rw [Int.natAbs_mul, Int.natAbs_mul]
    have h1 : a.natAbs = x.natAbs := by omega
    have h2 : b.natAbs = y.natAbs := by omega
    rw [h1, h2]
  have h0 : 0 ≤ x * y := Int.mul_nonneg (by omega) (by omega)
  apply clip_id <;> omega

theorem mul_out {a b x y : Int} (hx : x = max a (-a)) (hy : y = max b (-b)) (hb : b ≠ 0) (h : ¬ x ≤ 1000000000000000 / y) :
    clip (a * b) = if decide (a < 0) = decide (b < 0) then 1000000000000000 else -1000000000000000 := by
  have hy0 : 0 < y := by omega
  rw [le_div hy0] at h
  by_cases ha : a < 0 <;> by_cases hb' : b < 0 <;> simp only [ha, hb', decide_true, decide_false, if_true, Bool.true_eq_false, Bool.false_eq_true, if_false]
  · have e : x * y = a * b := by rw [show x = -a by omega, show y = -b by omega]; exact Int.neg_mul_neg a b
    exact clip_top (by omega)
  · have e : x * y = -(a * b) := by rw [show x = -a by omega, show y = b by omega]; exact Int.neg_mul a b
    exact clip_bot (by omega)
  · have e : x * y = -(a * b) := by rw [show x = a by omega, show y = -b by omega]; exact Int.mul_neg a b
    exact clip_bot (by omega)
  · have e : x * y = a * b := by rw [show x = a by omega, show y = b by omega]
    exact clip_top (by omega)

theorem addc_comm (a b : Int) : addc a b = addc b a := by unfold addc; rw [Int.add_comm]
theorem mulc_comm (a b : Int) : mulc a b = mulc b a := by unfold mulc; rw [Int.mul_comm]
theorem subc_self (a : Int) : subc a a = 0 := by unfold subc; rw [Int.sub_self]; rfl
theorem mulc_one (a : Int) : mulc a 1 = clip a := by
  unfold mulc; rw [show clip 1 = 1 from rfl, Int.mul_one, clip_clip]
theorem addc_mono {a b c : Int} (h : clip c ≤ clip a) : addc c b ≤ addc a b := clip_mono (by omega)
theorem subc_mono {a b c : Int} (h : clip c ≤ clip a) : subc b a ≤ subc b c := clip_mono (by omega)
theorem mulc_mono {a b c : Int} (h : clip c ≤ clip a) (hb : 0 ≤ b) : mulc c b ≤ mulc a b :=
  clip_mono (Int.mul_le_mul_of_nonneg_right h (clip_nonneg hb))
theorem mulc_zero_left {a b : Int} (h : clip a = 0) : mulc a b = 0 := by unfold mulc; rw [h, Int.zero_mul]; rfl
theorem mulc_zero_right {a b : Int} (h : clip b = 0) : mulc a b = 0 := by unfold mulc; rw [h, Int.mul_zero]; rfl

/-! ceil -/
theorem clip_one {b : Int} (h : 1 ≤ b) : 1 ≤ clip b := by unfold clip; split <;> (try split) <;> omega
theorem ceil_euclid (a : Int) {b : Int} (h : 1 ≤ b) : clip a ≤ ceilc a b * clip b ∧ (ceilc a b - 1) * clip b < clip a := by
  have hb := clip_one h
  unfold ceilc
  generalize clip a = x
  generalize clip b = y at hb
  have h1 := Int.emod_nonneg (-x) (show y ≠ 0 by omega)
  have h2 := Int.emod_lt_of_pos (-x) (show 0 < y by omega)
  have h3 := Int.mul_ediv_add_emod (-x) y
  generalize -x / y = q at *
  have e1 : -q * y = -(y * q) := by rw [Int.neg_mul, Int.mul_comm]
  have e2 : (-q - 1) * y = -(y * q) - y := by rw [Int.sub_mul, e1]; omega
  rw [e1, e2]; omega
theorem ceil_lo (a : Int) {b : Int} (h : 1 ≤ b) : -1000000000000000 ≤ ceilc a b := by
  have h1 := ceil_euclid a h; have hb := clip_one h; have := clip_lo a
  rcases Int.lt_or_le (ceilc a b) (-1000000000000000) with hc | hc
  · have : ceilc a b * clip b ≤ ceilc a b * 1 := Int.mul_le_mul_of_nonpos_left (by omega) hb
    omega
  · exact hc
theorem ceil_hi (a : Int) {b : Int} (h : 1 ≤ b) : ceilc a b ≤ 1000000000000000 := by
  have h1 := ceil_euclid a h; have hb := clip_one h; have := clip_hi a
  rcases Int.lt_or_le 1000000000000000 (ceilc a b) with hc | hc
  · have : (ceilc a b - 1) * 1 ≤ (ceilc a b - 1) * clip b := Int.mul_le_mul_of_nonneg_left hb (by omega)
    omega
  · exact hc

theorem lt_of_mul {p q y : Int} (hy : 0 < y) (h : p * y < q * y) : p < q := Int.lt_of_mul_lt_mul_right h (by omega)
theorem ceil_tdiv (a : Int) {b : Int} (h : 1 ≤ b) : ceilc a b - 1 ≤ (clip a).tdiv (clip b) ∧ (clip a).tdiv (clip b) ≤ ceilc a b := by
  have hb := clip_one h
  obtain ⟨h1, h2⟩ := ceil_euclid a h
  generalize ceilc a b = c at *
  generalize clip a = x at *
  generalize clip b = y at *
  have h3 := Int.mul_tdiv_add_tmod x y
  have h4 := Int.tmod_lt_of_pos x (show 0 < y by omega)
  have h5 : -y < x.tmod y := by
    have := Int.tmod_lt_of_pos (-x) (show 0 < y by omega)
    rw [Int.neg_tmod] at this; omega
  generalize x.tdiv y = d at *
  generalize x.tmod y = r at *
  rw [Int.mul_comm] at h3
  have hm : (c - 1) * y = c * y - y := by rw [Int.sub_mul]; omega
  constructor
  · have : (c - 1) * y < (d + 1) * y := by rw [Int.add_mul]; omega
    have := lt_of_mul (by omega) this
    omega
  · have : d * y < (c + 1) * y := by rw [Int.add_mul]; omega
    have := lt_of_mul (by omega) this
    omega
/-- n between: the product stays small, and it reaches a just at the end -/
theorem ceil_near (a : Int) {b n : Int} (h : 1 ≤ b) (h1 : ceilc a b - 1 ≤ n) (h2 : n ≤ ceilc a b) :
    -2000000000000000 ≤ n * clip b ∧ n * clip b ≤ 2000000000000000 ∧ (n * clip b < clip a → n < ceilc a b) ∧ (clip a ≤ n * clip b → n = ceilc a b) := by
  have hb := clip_one h; have hb' := clip_hi b; have ha := clip_hi a; have ha' := clip_lo a
  obtain ⟨e1, e2⟩ := ceil_euclid a h
  have hm : (ceilc a b - 1) * clip b = ceilc a b * clip b - clip b := by rw [Int.sub_mul]; omega
  obtain rfl | rfl : n = ceilc a b - 1 ∨ n = ceilc a b := by omega
  · refine ⟨by omega, by omega, by omega, by omega⟩
  · refine ⟨by omega, by omega, by omega, fun _ => rfl⟩

/-! share -/
theorem share_split (a m : Int) :
    a * m / 1000 = a / 1000 * m + a % 1000 * (m / 1000) + a % 1000 * (m % 1000) / 1000 := by
  have e1 := Int.mul_ediv_add_emod a 1000
  have e2 := Int.mul_ediv_add_emod m 1000
  generalize a / 1000 = n at *
  generalize a % 1000 = r at *
  generalize hk : m / 1000 = k at *
  generalize hl : m % 1000 = l at *
  have : a * m = r * l + (n * m + r * k) * 1000 := by
    rw [← e1, Int.add_mul]
    have : r * m = r * l + r * k * 1000 := by rw [← e2, Int.mul_add, Int.mul_left_comm, Int.mul_comm 1000]; omega
    rw [this, Int.mul_assoc, Int.mul_comm 1000, Int.add_mul]; omega
  rw [this, Int.add_mul_ediv_right _ _ (by omega)]
  omega
theorem clip_add {x y : Int} (hx : 0 ≤ x) (hy : 0 ≤ y) : clip (clip x + y) = clip (x + y) := by
  have := clip_spec x; have := clip_spec (clip x + y); have := clip_spec (x + y); omega
theorem share_eq (a m : Int) (ha : 0 ≤ a) (hm : 0 ≤ m) (ha' : a ≤ 1000000000000000) (hm' : m ≤ 1000000000000000) :
    clip (clip (mulc (a / 1000) m + mulc (a % 1000) (m / 1000)) + a % 1000 * (m % 1000) / 1000) = clip (a * m / 1000) := by
  rw [share_split a m]
  have h1 : 0 ≤ a / 1000 * m := Int.mul_nonneg (by omega) hm
  have h2 : 0 ≤ a % 1000 * (m / 1000) := Int.mul_nonneg (by omega) (by omega)
  have h3 : 0 ≤ a % 1000 * (m % 1000) := Int.mul_nonneg (by omega) (by omega)
  unfold mulc
  rw [clip_id (n := a / 1000) (by omega) (by omega), clip_id (n := m) (by omega) (by omega), clip_id (n := a % 1000) (by omega) (by omega), clip_id (n := m / 1000) (by omega) (by omega)]
  have e : clip (clip (a / 1000 * m) + clip (a % 1000 * (m / 1000))) = clip (a / 1000 * m + a % 1000 * (m / 1000)) := by
    rw [clip_add h1 (clip_nonneg h2), Int.add_comm, clip_add h2 h1, Int.add_comm]
  rw [e, clip_add (by omega) (by omega)]

theorem sharec_of {a m : Int} (ha : 0 ≤ a) (hm : 0 ≤ m) (ha' : a ≤ 2000000000) (hm' : m ≤ 100000) : sharec a m = a * m / 1000 := by
  have e1 : pos a = a := by unfold pos; rw [show max a 0 = a by omega]; exact clip_id (by omega) (by omega)
  have e2 : pos m = m := by unfold pos; rw [show max m 0 = m by omega]; exact clip_id (by omega) (by omega)
  unfold sharec
  rw [e1, e2]
  have h1 : 0 ≤ a * m := Int.mul_nonneg ha hm
  have h2 : a * m ≤ 2000000000 * 100000 := Int.mul_le_mul ha' hm' hm (by omega)
  exact clip_id (by omega) (by omega)

/-! the reference's product, digit by digit: behind the digits that p leaves -/
theorem digit_step {a q n : Int} (ha : 0 ≤ a) (hq : 0 ≤ q) (hn : n = clip (a * q)) : clip (n * 10) = clip (a * (q * 10)) := by
  have h0 : 0 ≤ a * q := Int.mul_nonneg ha hq
  rw [hn, ← Int.mul_assoc]
  generalize a * q = z at *
  have := clip_spec z; have := clip_spec (clip z * 10); have := clip_spec (z * 10); omega
theorem digit_add {a q n : Int} (ha : 0 ≤ a) (hq : 0 ≤ q) (hn : n = clip (a * q)) : clip (n + a) = clip (a * (q + 1)) := by
  have h0 : 0 ≤ a * q := Int.mul_nonneg ha hq
  rw [hn, clip_add h0 ha, Int.mul_add, Int.mul_one]

def tens (p : Int) : Prop := p = 1000000000000000 ∨ p = 100000000000000 ∨ p = 10000000000000 ∨ p = 1000000000000 ∨ p = 100000000000 ∨ p = 10000000000 ∨ p = 1000000000 ∨ p = 100000000 ∨ p = 10000000 ∨ p = 1000000 ∨ p = 100000 ∨ p = 10000 ∨ p = 1000 ∨ p = 100 ∨ p = 10 ∨ p = 1
theorem tens_step {p : Int} (h : tens p) : (p = 1) ∨ (tens (p / 10) ∧ p / 10 * 10 = p) := by
  unfold tens at *
  rcases h with rfl | rfl | rfl | rfl | rfl | rfl | rfl | rfl | rfl | rfl | rfl | rfl | rfl | rfl | rfl | rfl <;> simp
theorem tens_top : tens 1000000000000000 := .inl rfl
theorem tens_bd {p : Int} (h : tens p) : 1 ≤ p ∧ p ≤ 1000000000000000 := by unfold tens at h; omega
/-- at the head of the round of p: the digits ahead of p's are in -/
def mulAt (A B p n : Int) : Prop := (tens p ∧ n = clip (A * (B / p / 10))) ∨ (p = 0 ∧ n = clip (A * B))
theorem mulAt_start (A : Int) {B : Int} (h0 : 0 ≤ B) (h1 : B ≤ 1000000000000000) : mulAt A B 1000000000000000 0 := by
  refine .inl ⟨tens_top, ?_⟩
  rw [show B / 1000000000000000 / 10 = 0 by omega, Int.mul_zero]; rfl
theorem mulAt_next {A B p n : Int} (hp : tens p) (hn : n = clip (A * (B / p))) : mulAt A B (p / 10) n := by
  rcases tens_step hp with rfl | ⟨h1, h2⟩
  · refine .inr ⟨rfl, ?_⟩
    rw [hn, Int.ediv_one]
  · refine .inl ⟨h1, ?_⟩
    rw [hn, Int.ediv_ediv_of_nonneg (show 0 ≤ p / 10 by have := tens_bd h1; omega), h2]
theorem mulAt_bd {A B p n : Int} (h : mulAt A B p n) : -1000000000000000 ≤ n ∧ n ≤ 1000000000000000 := by
  rcases h with ⟨_, rfl⟩ | ⟨_, rfl⟩ <;> exact ⟨clip_lo _, clip_hi _⟩
theorem sign_cases (x : Int) : (x < 0 ∧ ∃ A, -x = A ∧ 0 ≤ A) ∨ (¬ x < 0 ∧ ∃ A, x = A ∧ 0 ≤ A) := by
  by_cases h : x < 0
  · exact .inl ⟨h, _, rfl, by omega⟩
  · exact .inr ⟨h, _, rfl, by omega⟩

end Tide


namespace Go.Proofs.Ytcnoapogeohmkaa
open Go.RowKit
theorem ret_int {k : IntKind} {a b : Int} (h : a = b) : Ending.returned (.int k a) = .returned (.int k b) := by rw [h]

set_option maxHeartbeats 400000 in
theorem numClip (n : Int) (w : World) : Calls Try.prog 76 #[.int .i64 n] w fun e w' => e = .returned (.int .i64 (Tide.clip n)) ∧ w = w' := by
  have k := Tide.clip_spec n
  by_cases h1 : n < -1000000000000000
  · go_enter Try.func76, Try.ntmps76
    go_wp2
    go_ret
    exact ⟨ret_int (by omega), rfl⟩
  · by_cases h2 : 1000000000000000 < n
    · go_enter Try.func76, Try.ntmps76
      go_wp2
      go_ret
      exact ⟨ret_int (by omega), rfl⟩
    · go_enter Try.func76, Try.ntmps76
      go_wp2
      go_ret
      exact ⟨ret_int (by omega), rfl⟩

set_option maxHeartbeats 400000 in
theorem refClip (n : Int) (w : World) : Calls Try.prog 56 #[.int .i64 n] w fun e w' => e = .returned (.int .i64 (Tide.clip n)) ∧ w = w' := by
  have k := Tide.clip_spec n
  by_cases h1 : n < -1000000000000000
  · go_enter Try.func56, Try.ntmps56
    go_wp2
    go_ret
    exact ⟨ret_int (by omega), rfl⟩
  · by_cases h2 : 1000000000000000 < n
    · go_enter Try.func56, Try.ntmps56
      go_wp2
      go_ret
      exact ⟨ret_int (by omega), rfl⟩
    · go_enter Try.func56, Try.ntmps56
      go_wp2
      go_ret
      exact ⟨ret_int (by omega), rfl⟩

set_option maxHeartbeats 400000 in
theorem numAdd (a b : Int) (w : World) : Calls Try.prog 74 #[.int .i64 a, .int .i64 b] w fun e w' => e = .returned (.int .i64 (Tide.addc a b)) ∧ w = w' := by
  have a0 := Tide.clip_lo a; have a1 := Tide.clip_hi a; have b0 := Tide.clip_lo b; have b1 := Tide.clip_hi b
  go_enter Try.func74, Try.ntmps74
  go_wp2_with (go_at_call 76; refine (numClip _ _).mono ?_; rintro e w' ⟨rfl, rfl⟩)
  go_ret
  exact ⟨rfl, rfl⟩

set_option maxHeartbeats 400000 in
theorem numSub (a b : Int) (w : World) : Calls Try.prog 64 #[.int .i64 a, .int .i64 b] w fun e w' => e = .returned (.int .i64 (Tide.subc a b)) ∧ w = w' := by
  have a0 := Tide.clip_lo a; have a1 := Tide.clip_hi a; have b0 := Tide.clip_lo b; have b1 := Tide.clip_hi b
  go_enter Try.func64, Try.ntmps64
  go_wp2_with (go_at_call 76; refine (numClip _ _).mono ?_; rintro e w' ⟨rfl, rfl⟩)
  go_ret
  exact ⟨rfl, rfl⟩


theorem wrap_small {n : Int} (h0 : -1000000000000000 ≤ n) (h1 : n ≤ 1000000000000000) : wrap64 n = n := IntWalk.wrap64_in n (by omega)
theorem quo_neg {B : Int} (h : B < 0) : wrap64 (-Int.tdiv 1000000000000000 B) = 1000000000000000 / -B := by
  rw [← Int.tdiv_neg, Int.tdiv_eq_ediv_of_nonneg (by omega)]
  exact wrap_small (by have := Int.ediv_nonneg (a := 1000000000000000) (b := -B) (by omega) (by omega); omega) (Int.ediv_le_self _ (by omega))
theorem mul_close_in {a b x y : Int} (hx : x = max a (-a)) (hy : y = max b (-b)) (hb : b ≠ 0) (h : x ≤ 1000000000000000 / y) : wrap64 (a * b) = Tide.clip (a * b) := by
  have e := Tide.mul_in hx hy hb h
  have h0 := Tide.clip_lo (a * b); have h1 := Tide.clip_hi (a * b)
  rw [e] at h0 h1 ⊢
  exact wrap_small h0 h1
set_option maxHeartbeats 1600000 in
theorem numMul (a b : Int) (w : World) : Calls Try.prog 63 #[.int .i64 a, .int .i64 b] w fun e w' => e = .returned (.int .i64 (Tide.mulc a b)) ∧ w = w' := by
  have a0 := Tide.clip_lo a; have a1 := Tide.clip_hi a; have b0 := Tide.clip_lo b; have b1 := Tide.clip_hi b
  by_cases hA : Tide.clip a = 0
  · have hz : Hid (Tide.mulc a b = 0) := Tide.mulc_zero_left hA
    go_enter Try.func63, Try.ntmps63
    go_wp2_with (go_at_call 76; refine (numClip _ _).mono ?_; rintro e w' ⟨rfl, rfl⟩)
    all_goals
      go_ret
      exact ⟨ret_int hz.out.symm, rfl⟩
  · have hA' : (Tide.clip a == 0) = false := by simp [hA]
    by_cases hB : Tide.clip b = 0
    · have hz : Hid (Tide.mulc a b = 0) := Tide.mulc_zero_right hB
      clear hA
      go_enter Try.func63, Try.ntmps63
      go_wp2_with (go_at_call 76; refine (numClip _ _).mono ?_; rintro e w' ⟨rfl, rfl⟩)
      all_goals
        go_ret
        exact ⟨ret_int hz.out.symm, rfl⟩
    · have hB' : (Tide.clip b == 0) = false := by simp [hB]
      have hmul : Hid (Tide.mulc a b = Tide.clip (Tide.clip a * Tide.clip b)) := rfl
      rcases Int.lt_or_lt_of_ne hA with ha | ha <;> rcases Int.lt_or_lt_of_ne hB with hb | hb
      · have ki := fun h => @mul_close_in (Tide.clip a) (Tide.clip b) (-Tide.clip a) (-Tide.clip b) (by omega) (by omega) hB h
        have ko := fun h => @Tide.mul_out (Tide.clip a) (Tide.clip b) (-Tide.clip a) (-Tide.clip b) (by omega) (by omega) hB h
        have KI := Lib.hid ki; have KO := Lib.hid ko; have hq := Lib.hid (quo_neg hb)
        clear hA hB ki ko
        go_enter Try.func63, Try.ntmps63
        go_wp2_with (go_at_call 76; refine (numClip _ _).mono ?_; rintro e w' ⟨rfl, rfl⟩)
        all_goals
          go_ret
          refine ⟨ret_int ?_, rfl⟩
          rw [hmul.out]
          first
            | exact KI.out (by rw [← hq.out]; assumption)
            | (rw [KO.out (by rw [← hq.out]; omega)]; simp_all; done)
            | (rw [KO.out (by rw [← hq.out]; omega)]; rw [if_pos (by simp; omega)])
            | (rw [KO.out (by rw [← hq.out]; omega)]; rw [if_neg (by simp; omega)])
      · have ki := fun h => @mul_close_in (Tide.clip a) (Tide.clip b) (-Tide.clip a) (Tide.clip b) (by omega) (by omega) hB h
        have ko := fun h => @Tide.mul_out (Tide.clip a) (Tide.clip b) (-Tide.clip a) (Tide.clip b) (by omega) (by omega) hB h
        have KI := Lib.hid ki; have KO := Lib.hid ko; skip
        clear hA hB ki ko
        go_enter Try.func63, Try.ntmps63
        go_wp2_with (go_at_call 76; refine (numClip _ _).mono ?_; rintro e w' ⟨rfl, rfl⟩)
        all_goals
          go_ret
          refine ⟨ret_int ?_, rfl⟩
          rw [hmul.out]
          first
            | exact KI.out (by skip; assumption)
            | (rw [KO.out (by skip; omega)]; simp_all; done)
            | (rw [KO.out (by skip; omega)]; rw [if_pos (by simp; omega)])
            | (rw [KO.out (by skip; omega)]; rw [if_neg (by simp; omega)])
      · have ki := fun h => @mul_close_in (Tide.clip a) (Tide.clip b) (Tide.clip a) (-Tide.clip b) (by omega) (by omega) hB h
        have ko := fun h => @Tide.mul_out (Tide.clip a) (Tide.clip b) (Tide.clip a) (-Tide.clip b) (by omega) (by omega) hB h
        have KI := Lib.hid ki; have KO := Lib.hid ko; have hq := Lib.hid (quo_neg hb)
        clear hA hB ki ko
        go_enter Try.func63, Try.ntmps63
        go_wp2_with (go_at_call 76; refine (numClip _ _).mono ?_; rintro e w' ⟨rfl, rfl⟩)
        all_goals
          go_ret
          refine ⟨ret_int ?_, rfl⟩
          rw [hmul.out]
          first
            | exact KI.out (by rw [← hq.out]; assumption)
            | (rw [KO.out (by rw [← hq.out]; omega)]; simp_all; done)
            | (rw [KO.out (by rw [← hq.out]; omega)]; rw [if_pos (by simp; omega)])
            | (rw [KO.out (by rw [← hq.out]; omega)]; rw [if_neg (by simp; omega)])
      · have ki := fun h => @mul_close_in (Tide.clip a) (Tide.clip b) (Tide.clip a) (Tide.clip b) (by omega) (by omega) hB h
        have ko := fun h => @Tide.mul_out (Tide.clip a) (Tide.clip b) (Tide.clip a) (Tide.clip b) (by omega) (by omega) hB h
        have KI := Lib.hid ki; have KO := Lib.hid ko; skip
        clear hA hB ki ko
        go_enter Try.func63, Try.ntmps63
        go_wp2_with (go_at_call 76; refine (numClip _ _).mono ?_; rintro e w' ⟨rfl, rfl⟩)
        all_goals
          go_ret
          refine ⟨ret_int ?_, rfl⟩
          rw [hmul.out]
          first
            | exact KI.out (by skip; assumption)
            | (rw [KO.out (by skip; omega)]; simp_all; done)
            | (rw [KO.out (by skip; omega)]; rw [if_pos (by simp; omega)])
            | (rw [KO.out (by skip; omega)]; rw [if_neg (by simp; omega)])


theorem tdiv_floor (a b : Int) (hb : 0 < b) : (if a.tmod b < 0 then a.tdiv b - 1 else a.tdiv b) = a / b := by
  rw [Int.tdiv_eq_ediv, Int.tmod_eq_emod]
  have h1 := Int.emod_nonneg a (show b ≠ 0 by omega)
  have h2 := Int.emod_lt_of_pos a hb
  by_cases h : 0 ≤ a ∨ b ∣ a
  · rw [if_pos h, if_pos h, if_neg (by omega)]; omega
  · rw [if_neg h, if_neg h, if_pos (by omega), Int.sign_eq_one_of_pos hb]; omega
theorem tdiv_bd (a b : Int) (hb : 0 < b) (h0 : -4000000000000000000 ≤ a) (h1 : a ≤ 4000000000000000000) : -4000000000000000000 ≤ a.tdiv b ∧ a.tdiv b ≤ 4000000000000000000 := by
  rw [tdiv_eq_if]
  split
  · have := IntWalk.tdiv_le a b (by omega) (by omega); omega
  · have := IntWalk.tdiv_le (-a) b (by omega) (by omega); omega
set_option maxHeartbeats 400000 in
theorem numFloor (a b : Int) (w : World) (hb : 1 ≤ b) (h0 : -4000000000000000000 ≤ a) (h1 : a ≤ 4000000000000000000) : Calls Try.prog 75 #[.int .i64 a, .int .i64 b] w fun e w' => e = .returned (.int .i64 (a / b)) ∧ w = w' := by
  have h := Lib.hid (tdiv_floor a b (by omega))
  have hd := tdiv_bd a b (by omega) h0 h1
  obtain ⟨d0, d1⟩ := hd
  by_cases hm : a.tmod b < 0
  · go_enter Try.func75, Try.ntmps75
    go_wp2
    go_ret
    exact ⟨ret_int (by have := h.out; rw [if_pos hm] at this; exact this), rfl⟩
  · go_enter Try.func75, Try.ntmps75
    go_wp2
    go_ret
    exact ⟨ret_int (by have := h.out; rw [if_neg (by omega)] at this; exact this), rfl⟩

set_option maxHeartbeats 400000 in
theorem numCeil_no (a b : Int) (w : World) (h : b < 1) : Calls Try.prog 62 #[.int .i64 a, .int .i64 b] w fun e w' => e = .returned (.tuple #[.int .i64 0, .int .i64 1]) ∧ w = w' := by
  go_enter Try.func62, Try.ntmps62
  go_wp2
  go_ret2
  exact ⟨rfl, rfl⟩
set_option maxHeartbeats 400000 in
theorem numCeil_yes (a b : Int) (w : World) (h : 1 ≤ b) : Calls Try.prog 62 #[.int .i64 a, .int .i64 b] w fun e w' => e = .returned (.tuple #[.int .i64 (Tide.ceilc a b), .int .i64 0]) ∧ w = w' := by
  have a0 := Tide.clip_lo a; have a1 := Tide.clip_hi a; have b0 := Tide.clip_one h; have b1 := Tide.clip_hi b
  have c0 := Tide.ceil_lo a h; have c1 := Tide.ceil_hi a h
  unfold Tide.ceilc at c0 c1
  go_enter Try.func62, Try.ntmps62
  go_wp2_with (first | (go_at_call 76; refine (numClip _ _).mono ?_; rintro e w' ⟨rfl, rfl⟩) | (go_at_call 75; refine (numFloor _ _ _ (by omega) (by omega) (by omega)).mono ?_; rintro e w' ⟨rfl, rfl⟩))
  go_ret2
  exact ⟨rfl, rfl⟩

set_option maxHeartbeats 800000 in
theorem numShare (a m : Int) (w : World) : Calls Try.prog 65 #[.int .i64 a, .int .i64 m] w fun e w' => e = .returned (.int .i64 (Tide.sharec a m)) ∧ w = w' := by
  obtain ⟨x, hx⟩ : ∃ x, (if a < 0 then 0 else a) = x := ⟨_, rfl⟩
  obtain ⟨y, hy⟩ : ∃ y, (if m < 0 then 0 else m) = y := ⟨_, rfl⟩
  have ex : Tide.pos a = Tide.clip x := by unfold Tide.pos; congr 1; omega
  have ey : Tide.pos m = Tide.clip y := by unfold Tide.pos; congr 1; omega
  have x0 : 0 ≤ Tide.clip x := Tide.clip_nonneg (by omega)
  have y0 : 0 ≤ Tide.clip y := Tide.clip_nonneg (by omega)
  have x1 := Tide.clip_hi x; have y1 := Tide.clip_hi y
  have hs : Hid (Tide.sharec a m = Tide.addc (Tide.addc (Tide.mulc (Tide.clip x / 1000) (Tide.clip y)) (Tide.mulc (Tide.clip x % 1000) (Tide.clip y / 1000))) (Tide.clip x % 1000 * (Tide.clip y % 1000) / 1000)) := by
    unfold Tide.sharec Hid
    rw [ex, ey, ← Tide.share_eq _ _ x0 y0 x1 y1]
    unfold Tide.addc
    rw [Tide.clip_clip]
    have e1 : Tide.clip (Tide.clip x % 1000 * (Tide.clip y % 1000) / 1000) = Tide.clip x % 1000 * (Tide.clip y % 1000) / 1000 := by
      have h0 : 0 ≤ Tide.clip x % 1000 * (Tide.clip y % 1000) := Int.mul_nonneg (by omega) (by omega)
      have h1 : Tide.clip x % 1000 * (Tide.clip y % 1000) ≤ 1000 * 1000 := Int.mul_le_mul (by omega) (by omega) (by omega) (by omega)
      exact Tide.clip_id (by omega) (by omega)
    rw [e1]
    unfold Tide.mulc
    simp only [Tide.clip_clip]
  have h0 : 0 ≤ Tide.clip x % 1000 * (Tide.clip y % 1000) := Int.mul_nonneg (by omega) (by omega)
  have h1 : Tide.clip x % 1000 * (Tide.clip y % 1000) ≤ 1000 * 1000 := Int.mul_le_mul (by omega) (by omega) (by omega) (by omega)
  clear ex ey
  go_enter Try.func65, Try.ntmps65
  go_wp2_with (first | (go_at_call 76; refine (numClip _ _).mono ?_; rintro e w' ⟨rfl, rfl⟩) | (go_at_call 63; refine (numMul _ _ _).mono ?_; rintro e w' ⟨rfl, rfl⟩) | (go_at_call 74; refine (numAdd _ _ _).mono ?_; rintro e w' ⟨rfl, rfl⟩))
  go_ret
  exact ⟨ret_int hs.out.symm, rfl⟩
end Go.Proofs.Ytcnoapogeohmkaa


namespace Go.Proofs.Ytcnoapogeohmkaa
open Go.RowKit

set_option maxHeartbeats 400000 in
theorem refCeil (a b : Int) (w : World) (h : 1 ≤ b) : Calls Try.prog 54 #[.int .i64 a, .int .i64 b] w fun e w' => e = .returned (.int .i64 (Tide.ceilc a b)) ∧ w = w' := by
  have a0 := Tide.clip_lo a; have a1 := Tide.clip_hi a; have b0 := Tide.clip_one h; have b1 := Tide.clip_hi b
  have c0 := Tide.ceil_lo a h; have c1 := Tide.ceil_hi a h
  obtain ⟨d0, d1⟩ := tdiv_bd (Tide.clip a) (Tide.clip b) (by omega) (by omega) (by omega)
  obtain ⟨t0, t1⟩ := Tide.ceil_tdiv a h
  go_enter Try.func54, Try.ntmps54
  go_wp2_with (first | (go_at_call 56; refine (refClip _ _).mono ?_; rintro e w' ⟨rfl, rfl⟩))
  go_loop [5] (fun t => ∃ n : Int, Tide.ceilc a b - 1 ≤ n ∧ n ≤ Tide.ceilc a b ∧ t = .int .i64 n) (fun t => (Tide.ceilc a b - intOf t).toNat)
  case atStart => exact ⟨_, t0, t1, rfl⟩
  case round =>
    obtain ⟨n, n0, n1, rfl⟩ := hrel
    obtain ⟨m0, m1, m2, m3⟩ := Tide.ceil_near a h n0 n1
    clear t0 t1 d0 d1
    by_cases hlt : n * Tide.clip b < Tide.clip a
    · have hn := m2 hlt
      clear m2 m3
      go_wp2
      go_round
      case rel => exact ⟨n + 1, by omega, by omega, by go_num⟩
      case measure => simp [intOf]; omega
    · have hn := Lib.hid (m3 (by omega))
      clear m2 m3
      go_wp2
      go_ret
      exact ⟨ret_int hn.out, rfl⟩

set_option maxHeartbeats 1600000 in
theorem refMul (a b : Int) (w : World) : Calls Try.prog 55 #[.int .i64 a, .int .i64 b] w fun e w' => e = .returned (.int .i64 (Tide.mulc a b)) ∧ w = w' := by
  have a0 := Tide.clip_lo a; have a1 := Tide.clip_hi a; have b0 := Tide.clip_lo b; have b1 := Tide.clip_hi b
  have hm : Hid (Tide.mulc a b = Tide.clip (Tide.clip a * Tide.clip b)) := rfl
  rcases Tide.sign_cases (Tide.clip a) with ⟨sa, A, hA, hA0⟩ | ⟨sa, A, hA, hA0⟩ <;> rcases Tide.sign_cases (Tide.clip b) with ⟨sb, B, hB, hB0⟩ | ⟨sb, B, hB, hB0⟩
  all_goals
    have A1 : A ≤ 1000000000000000 := by omega
    have B1 : B ≤ 1000000000000000 := by omega
    have dA : decide (A < 0) = false := decide_eq_false (by omega)
    have dB : decide (B < 0) = false := decide_eq_false (by omega)
    have HA := Lib.hid hA
    have HB := Lib.hid hB
    have hst := Lib.hid (Tide.mulAt_start A hB0 B1)
    go_enter Try.func55, Try.ntmps55
    go_wp2_with (first | (go_at_call 56; refine (refClip _ _).mono ?_; rintro e w' ⟨rfl, rfl⟩))
    go_loop [6, 7] (fun n p => ∃ x y : Int, Hid (Tide.mulAt A B y x) ∧ n = .int .i64 x ∧ p = .int .i64 y) (fun _ p => (intOf p).toNat)
    case atStart => exact ⟨_, _, hst, rfl, rfl⟩
    case round =>
      obtain ⟨x, y, hxy, rfl, rfl⟩ := hrel
      obtain ⟨x0, x1⟩ := Tide.mulAt_bd hxy.out
      clear hst
      rcases hxy.out with ⟨hy, hx⟩ | ⟨rfl, hx⟩
      · obtain ⟨y0, y1⟩ := Tide.tens_bd hy
        have HX := Lib.hid hx
        have HY := Lib.hid hy
        have q0 : 0 ≤ B / y := Int.ediv_nonneg hB0 (by omega)
        have q1 : B / y ≤ B := Int.ediv_le_self _ hB0
        clear hxy hx hy hA hB
        go_wp2_with (first | (go_at_call 56; refine (refClip _ _).mono ?_; rintro e w' ⟨rfl, rfl⟩))
        have hin : Hid (Tide.clip (x * 10) = Tide.clip (A * (B / y / 10 * 10 + 0))) := by
          rw [Int.add_zero]; exact Tide.digit_step hA0 (by omega) HX.out
        go_loop [6, 8] (fun n k => ∃ z j : Int, 0 ≤ j ∧ j ≤ B / y % 10 ∧ -1000000000000000 ≤ z ∧ z ≤ 1000000000000000 ∧ Hid (z = Tide.clip (A * (B / y / 10 * 10 + j))) ∧ n = .int .i64 z ∧ k = .int .i64 j) (fun _ k => (B / y % 10 - intOf k).toNat)
        case atStart => exact ⟨_, 0, by omega, by omega, Tide.clip_lo _, Tide.clip_hi _, hin, rfl, rfl⟩
        case round =>
          obtain ⟨z, j, j0, j1, z0, z1, hz, rfl, rfl⟩ := hrel
          clear hin
          by_cases hj : j < B / y % 10
          · have hnx : Hid (Tide.clip (z + A) = Tide.clip (A * (B / y / 10 * 10 + (j + 1)))) := by
              rw [← Int.add_assoc]; exact Tide.digit_add hA0 (by omega) hz.out
            go_wp2_with (first | (go_at_call 56; refine (refClip _ _).mono ?_; rintro e w' ⟨rfl, rfl⟩))
            go_round
            case rel => exact ⟨_, j + 1, by omega, by omega, Tide.clip_lo _, Tide.clip_hi _, hnx, rfl, by go_num⟩
            case measure => simp [intOf]; omega
          · have hnx : Hid (Tide.mulAt A B (y / 10) z) := Tide.mulAt_next HY.out (by rw [hz.out]; congr 2; omega)
            go_wp2
            go_round
            case rel => exact ⟨_, _, hnx, rfl, rfl⟩
            case measure => simp [intOf]; omega
      · go_wp2
        go_ret
        refine ⟨ret_int ?_, rfl⟩
        have ea := HA.out
        have eb := HB.out
        rw [hm.out]
        first
          | (rw [show Tide.clip a = -A by omega, show Tide.clip b = -B by omega, Int.neg_mul_neg])
          | (rw [show Tide.clip a = -A by omega, show Tide.clip b = B by omega, Int.neg_mul, Tide.clip_neg])
          | (rw [show Tide.clip a = A by omega, show Tide.clip b = -B by omega, Int.mul_neg, Tide.clip_neg])
          | (rw [show Tide.clip a = A by omega, show Tide.clip b = B by omega])

set_option maxHeartbeats 800000 in
theorem refShare (a m : Int) (w : World) : Calls Try.prog 57 #[.int .i64 a, .int .i64 m] w fun e w' => e = .returned (.int .i64 (Tide.sharec a m)) ∧ w = w' := by
  obtain ⟨x, hx⟩ : ∃ x, (if Tide.clip a < 0 then 0 else Tide.clip a) = x := ⟨_, rfl⟩
  obtain ⟨y, hy⟩ : ∃ y, (if Tide.clip m < 0 then 0 else Tide.clip m) = y := ⟨_, rfl⟩
  have ex : Tide.pos a = x := by rw [← Tide.pos_eq]; omega
  have ey : Tide.pos m = y := by rw [← Tide.pos_eq]; omega
  have x0 : 0 ≤ x := by omega
  have y0 : 0 ≤ y := by omega
  have a1 := Tide.clip_hi a; have m1 := Tide.clip_hi m
  have x1 : x ≤ 1000000000000000 := by omega
  have y1 : y ≤ 1000000000000000 := by omega
  have h0 : 0 ≤ x % 1000 * (y % 1000) := Int.mul_nonneg (by omega) (by omega)
  have h1 : x % 1000 * (y % 1000) ≤ 1000 * 1000 := Int.mul_le_mul (by omega) (by omega) (by omega) (by omega)
  have k0 := Tide.clip_lo (Tide.clip (x / 1000) * Tide.clip y); have k1 := Tide.clip_hi (Tide.clip (x / 1000) * Tide.clip y)
  have l0 := Tide.clip_lo (Tide.clip (x % 1000) * Tide.clip (y / 1000)); have l1 := Tide.clip_hi (Tide.clip (x % 1000) * Tide.clip (y / 1000))
  change -1000000000000000 ≤ Tide.mulc (x / 1000) y at k0
  change Tide.mulc (x / 1000) y ≤ 1000000000000000 at k1
  change -1000000000000000 ≤ Tide.mulc (x % 1000) (y / 1000) at l0
  change Tide.mulc (x % 1000) (y / 1000) ≤ 1000000000000000 at l1
  have c0 := Tide.clip_lo (Tide.mulc (x / 1000) y + Tide.mulc (x % 1000) (y / 1000)); have c1 := Tide.clip_hi (Tide.mulc (x / 1000) y + Tide.mulc (x % 1000) (y / 1000))
  have hs : Hid (Tide.sharec a m = Tide.clip (Tide.clip (Tide.mulc (x / 1000) y + Tide.mulc (x % 1000) (y / 1000)) + x % 1000 * (y % 1000) / 1000)) := by
    unfold Tide.sharec Hid
    rw [ex, ey, Tide.share_eq _ _ x0 y0 x1 y1]
  clear ex ey
  go_enter Try.func57, Try.ntmps57
  go_wp2_with (first | (go_at_call 56; refine (refClip _ _).mono ?_; rintro e w' ⟨rfl, rfl⟩) | (go_at_call 55; refine (refMul _ _ _).mono ?_; rintro e w' ⟨rfl, rfl⟩))
  go_ret
  exact ⟨ret_int hs.out.symm, rfl⟩
end Go.Proofs.Ytcnoapogeohmkaa


namespace Go.Proofs.Ytcnoapogeohmkaa
set_option linter.unusedVariables false
open Go.RowKit

def rest (n m : Int) : Int := n % m
theorem rest_eq {n m : Int} (hm : 0 < m) : (if n.tmod m < 0 then n.tmod m + m else n.tmod m) = n % m := by
  have h := tdiv_floor n m hm
  have h3 := Int.mul_ediv_add_emod n m
  have h4 := Int.mul_tdiv_add_tmod n m
  split at h
  · rename_i c
    rw [if_pos c]
    have : m * (n.tdiv m - 1) = m * n.tdiv m - m := by rw [Int.mul_sub]; omega
    rw [h] at this; omega
  · rename_i c
    rw [if_neg c]
    rw [← h] at h3; omega
theorem tmod_bd (a : Int) {b : Int} (h : 0 < b) : -b < a.tmod b ∧ a.tmod b < b := by
  have h4 := Int.tmod_lt_of_pos a h
  have := Int.tmod_lt_of_pos (-a) h
  rw [Int.neg_tmod] at this; omega
set_option maxHeartbeats 400000 in
theorem refRest (n m : Int) (w : World) (hm : 1 ≤ m) (hm' : m ≤ 1000000000000) : Calls Try.prog 9 #[.int .i64 n, .int .i64 m] w fun e w' => e = .returned (.int .i64 (rest n m)) ∧ w = w' := by
  obtain ⟨b0, b1⟩ := tmod_bd n (show 0 < m by omega)
  have he := Lib.hid (rest_eq (n := n) (show 0 < m by omega))
  by_cases hn : n.tmod m < 0
  · go_enter Try.func9, Try.ntmps9
    go_wp2
    go_ret
    exact ⟨ret_int (by have := he.out; rw [if_pos hn] at this; exact this), rfl⟩
  · go_enter Try.func9, Try.ntmps9
    go_wp2
    go_ret
    exact ⟨ret_int (by have := he.out; rw [if_neg (by omega)] at this; exact this), rfl⟩

/-- shares of numbers in bounds -/
theorem share_facts {a b m : Int} (ha : 0 ≤ a) (ha' : a < 1000000000) (hb : 0 ≤ b) (hb' : b < 1000000000) (hm : 0 ≤ m) (hm' : m < 100000) :
    Tide.sharec a 1000 = a ∧ Tide.sharec a 0 = 0 ∧ Tide.sharec a m + Tide.sharec b m ≤ Tide.sharec (a + b) m ∧ Tide.sharec (a + b) m ≤ Tide.sharec a m + Tide.sharec b m + 1 ∧ Tide.sharec a m = a * m / 1000 ∧
      0 ≤ a * m ∧ a * m ≤ 100000000000000 ∧ 0 ≤ Tide.sharec a m ∧ Tide.sharec a m ≤ 100000000000 ∧ 0 ≤ Tide.sharec b m ∧ Tide.sharec b m ≤ 100000000000 := by
  rw [Tide.sharec_of (a := a) (m := 1000) ha (by omega) (by omega) (by omega), Tide.sharec_of (a := a) (m := 0) ha (by omega) (by omega) (by omega), Tide.sharec_of (a := a) (m := m) ha hm (by omega) (by omega), Tide.sharec_of (a := b) (m := m) hb hm (by omega) (by omega), Tide.sharec_of (a := a + b) (m := m) (by omega) hm (by omega) (by omega), Int.add_mul]
  have h1 : 0 ≤ a * m := Int.mul_nonneg ha hm
  have h2 : a * m ≤ 1000000000 * 100000 := Int.mul_le_mul (by omega) (by omega) hm (by omega)
  have h3 : 0 ≤ b * m := Int.mul_nonneg hb hm
  have h4 : b * m ≤ 1000000000 * 100000 := Int.mul_le_mul (by omega) (by omega) hm (by omega)
  generalize a * m = x at *
  generalize b * m = y at *
  omega

end Go.Proofs.Ytcnoapogeohmkaa
