/- The plain law: the reference's day by day answers as the program's, at the edges of time too. -/
import Derived.Test.YtcnoapogeohmkaaSekF
import Derived.Test.YtcnoapogeohmkaaZSpan
set_option linter.unusedVariables false
set_option linter.unusedSimpArgs false
namespace Tide
theorem first_same {p q : Nat → Bool} {R : Nat → Prop} {v : Nat → Option Int} (n : Nat) (h1 : ∀ i, R i → p i = q i) (h2 : ∀ i j, i ≤ j → R j → R i) (h3 : ∀ i, ¬ R i → v i = none) :
    (match firstUnder p n with | none => none | some i => v i) = (match firstUnder q n with | none => none | some i => v i) := by
  cases hp : firstUnder p n with
  | some i =>
    obtain ⟨hi, hpi, hlo⟩ := under_some hp
    by_cases hr : R i
    · have hq : firstUnder q n = some i := under_is hi ((h1 i hr).symm.trans hpi) (fun k hk => (h1 k (h2 k i (by omega) hr)).symm.trans (hlo k hk))
      rw [hq]
    · cases hq : firstUnder q n with
      | none => exact h3 i hr
      | some j =>
        obtain ⟨hj, hqj, _⟩ := under_some hq
        show v i = v j
        rw [h3 i hr]
        by_cases hrj : R j
        · have hpj := (h1 j hrj).trans hqj
          rcases Nat.lt_or_ge j i with c | c
          · rw [hlo j c] at hpj; cases hpj
          · exact absurd (h2 i j c hrj) hr
        · rw [h3 j hrj]
  | none =>
    cases hq : firstUnder q n with
    | none => rfl
    | some j =>
      obtain ⟨hj, hqj, _⟩ := under_some hq
      show none = v j
      by_cases hrj : R j
      · have hpj := (h1 j hrj).trans hqj
        rw [under_none hp j hj] at hpj; cases hpj
      · rw [h3 j hrj]
end Tide
namespace Go.Proofs.Ytcnoapogeohmkaa
open Go.RowKit
theorem in_day_at {c : Cr} {a sec side n : Int} (h : c.inDay a sec side = some n) : ∃ k, k < 1440 ∧ n = a + 60 * Tide.minOf side k := by
  unfold Cr.inDay at h
  cases hf : Tide.firstUnder (c.minB a sec side) 1440 with
  | none => rw [hf] at h; cases h
  | some k =>
    rw [hf] at h
    exact ⟨k, (Tide.under_some hf).1, by simpa using h.symm⟩
theorem fit_same {c : Cr} {a shift : Int} (h : (a + 60 * shift) % 86400 = 0) (h0 : -100000000000 < a + 86400) (h1 : a ≤ 100000000000) : c.dayFit shift a = c.dayFitR shift a := by
  have e : (clampT (a + 43200) + 60 * shift) / 86400 = (a + 60 * shift) / 86400 := by unfold clampT; omega
  unfold Cr.dayFit Cr.dayFitR
  rw [e]
set_option maxRecDepth 100000 in
theorem seek_same {c : Cr} {sec shift side : Int} (hs : side = 1 ∨ side = -1) (h : okTime sec shift) : c.seekR sec shift side = c.seekO sec shift side := by
  obtain ⟨t0, t1, t2, t3⟩ := h
  have hst : dayStart sec shift = sec - (sec + 60 * shift) % 86400 := rfl
  unfold Cr.seekR Cr.seekO
  refine (Tide.first_same (R := fun i => -100000000000 < dayAt sec shift side i + 86400 ∧ dayAt sec shift side i ≤ 100000000000) 3001 ?_ ?_ ?_)
  · rintro i ⟨r0, r1⟩
    unfold Cr.hitR Cr.hit
    rw [fit_same (c := c) (shift := shift) ?_ r0 r1]
    unfold dayAt
    rw [hst]
    rcases hs with rfl | rfl <;> omega
  · intro i j hij
    unfold dayAt
    rw [hst]
    rcases hs with rfl | rfl <;> omega
  · intro i hn
    cases hd : c.inDay (dayAt sec shift side i) sec side with
    | none => rfl
    | some n =>
      obtain ⟨k, hk, e⟩ := in_day_at hd
      unfold inTime
      simp only
      rw [if_pos]
      unfold dayAt at hn e
      rw [hst] at hn e
      unfold Tide.minOf at e
      rcases hs with rfl | rfl
      · simp at e; omega
      · simp at e; omega
/-- what Seek answers, of a right cron and time -/
theorem found_same {c : Cr} {sec shift side : Int} (hs : side = 1 ∨ side = -1) (h : okTime sec shift) (hok : c.ok = true) : foundV (c.seekR sec shift side) = .tuple #[.int .i64 (c.seekN sec shift side), .bool (c.seekB sec shift side)] := by
  rw [seek_same hs h]
  unfold Cr.seekN Cr.seekB
  rw [if_pos ⟨hok, h⟩, if_pos ⟨hok, h⟩]
  cases c.seekO sec shift side <;> rfl
end Go.Proofs.Ytcnoapogeohmkaa
