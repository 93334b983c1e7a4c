/- The contract of cron.within: the first minute of a day that fits. -/
import Derived.Test.YthelnkoohbnjpaaDoorCronD
import Derived.Test.YthelnkoohbnjpaaDoorCivD
import Derived.Deep.DeepCutAuto
import Derived.Deep.CutBlock
set_option linter.unusedVariables false
set_option linter.unusedSimpArgs false
namespace Tide
/-- the first below n that fits -/
def firstUnder (p : Nat → Bool) : Nat → Option Nat
  | 0 => none
  | k + 1 => match firstUnder p k with | some i => some i | none => if p k then some k else none
theorem under_none {p : Nat → Bool} : ∀ {n : Nat}, firstUnder p n = none → ∀ k, k < n → p k = false
  | 0, _, k, hk => by omega
  | n + 1, h, k, hk => by
    unfold firstUnder at h
    cases hn : firstUnder p n with
    | some i => rw [hn] at h; cases h
    | none =>
      rw [hn] at h
      simp only at h
      rcases Nat.lt_succ_iff_lt_or_eq.1 hk with c | c
      · exact under_none hn k c
      · subst c
        cases hp : p k
        · rfl
        · rw [hp] at h; cases h
theorem under_some {p : Nat → Bool} : ∀ {n i : Nat}, firstUnder p n = some i → i < n ∧ p i = true ∧ ∀ k, k < i → p k = false
  | 0, i, h => by cases h
  | n + 1, i, h => by
    unfold firstUnder at h
    cases hn : firstUnder p n with
    | some i' =>
      rw [hn] at h; cases h
      obtain ⟨h1, h2, h3⟩ := under_some hn
      exact ⟨by omega, h2, h3⟩
    | none =>
      rw [hn] at h
      simp only at h
      cases hp : p n
      · rw [hp] at h; cases h
      · rw [hp] at h; cases h
        exact ⟨by omega, hp, fun k hk => under_none hn k hk⟩
theorem under_is {p : Nat → Bool} {n i : Nat} (hi : i < n) (hp : p i = true) (h : ∀ k, k < i → p k = false) : firstUnder p n = some i := by
  cases hn : firstUnder p n with
  | none => rw [under_none hn i hi] at hp; cases hp
  | some j =>
    obtain ⟨_, h2, h3⟩ := under_some hn
    rcases Nat.lt_trichotomy i j with c | c | c
    · rw [h3 i c] at hp; cases hp
    · rw [c]
    · rw [h j c] at h2; cases h2
theorem under_all {p : Nat → Bool} {n : Nat} (h : ∀ k, k < n → p k = false) : firstUnder p n = none := by
  cases hn : firstUnder p n with
  | none => rfl
  | some j =>
    obtain ⟨h1, h2, _⟩ := under_some hn
    rw [h j h1] at h2; cases h2
/-- the k-th minute of a day, from one side -/
def minOf (side : Int) (k : Nat) : Int := if side < 0 then 1439 - k else k
end Tide
namespace Go.Proofs.YthelnkoohbnjpaaDoor
open Go.RowKit
set_option linter.unusedVariables false
/-- does the k-th minute fit? -/
def Cr.minB (c : Cr) (at0 sec side : Int) (k : Nat) : Bool := hasB c.h (Tide.minOf side k / 60) && hasB c.mi (Tide.minOf side k % 60) && (if side < 0 then decide (at0 + 60 * Tide.minOf side k ≤ sec) else decide (sec < at0 + 60 * Tide.minOf side k))
def Cr.inDay (c : Cr) (at0 sec side : Int) : Option Int := (Tide.firstUnder (c.minB at0 sec side) 1440).map fun k => at0 + 60 * Tide.minOf side k
def foundV (o : Option Int) : Value := match o with | none => .tuple #[.int .i64 0, .bool false] | some n => .tuple #[.int .i64 n, .bool true]
end Go.Proofs.YthelnkoohbnjpaaDoor
