/- Plain laws: what fits comes again within 2930 days; so the last time that fits is never out of sight. -/
import Derived.Test.YtikjefghpnffkaaCronY
import Derived.Test.YtikjefghpnffkaaCronP
import Derived.Test.YtikjefghpnffkaaCivM
namespace Tide
theorem cum_near (a b m : Int) : -1 ≤ cum b m - cum a m ∧ cum b m - cum a m ≤ 1 := by
  unfold cum
  by_cases c1 : m ≤ 2
  · rw [if_pos c1, if_pos c1]; omega
  · rw [if_neg c1, if_neg c1]; split <;> split <;> omega
theorem years_eight (y : Int) : years (y + 8) ≤ years y + 2922 := by unfold years; omega
theorem again_date (D : Int) : ∃ E, D < E ∧ E ≤ D + 2930 ∧ moOf E = moOf D ∧ dyOf E = dyOf D := by
  have hv := date_valid D
  have hd := date_dayno D
  generalize yrOf D = y at hv hd
  generalize moOf D = m at hv hd ⊢
  generalize dyOf D = d at hv hd ⊢
  obtain ⟨v1, v2, v3, v4⟩ := hv
  have key : ∀ y', y < y' → y' ≤ y + 8 → d ≤ long y' m → D < dayno y' m d ∧ dayno y' m d ≤ D + 2930 := by
    intro y' h1 h2 h3
    have c1 := cum_near y y' m
    have c2 := years_le h1
    have c3 := years_mono h2
    have c4 := years_eight y
    have c5 : 0 ≤ (if leap y then (1 : Int) else 0) := by split <;> omega
    rw [← hd]
    unfold dayno
    omega
  have fin : ∀ y', y < y' → y' ≤ y + 8 → d ≤ long y' m → ∃ E, D < E ∧ E ≤ D + 2930 ∧ moOf E = m ∧ dyOf E = d := by
    intro y' h1 h2 h3
    obtain ⟨k1, k2⟩ := key y' h1 h2 h3
    obtain ⟨u1, u2, u3⟩ := date_uniq (n := dayno y' m d) (show valid y' m d from ⟨v1, v2, v3, h3⟩) rfl
    exact ⟨_, k1, k2, u2.symm, u3.symm⟩
  by_cases hf : d ≤ long (y + 1) m
  · exact fin (y + 1) (by omega) (by omega) hf
  · have hm : m = 2 := by
      by_cases c : m = 2
      · exact c
      · unfold long at v4 hf; rw [if_neg c] at v4 hf; exact absurd v4 hf
    subst hm
    have hl : leap y := by
      by_cases c : leap y
      · exact c
      · have e : long y 2 = 28 := by unfold long; rw [if_pos rfl, if_neg c]
        have := long_lo (y + 1) 2
        omega
    by_cases c4 : leap (y + 4)
    · exact fin (y + 4) (by omega) (by omega) (by have e : long (y + 4) 2 = 29 := by { unfold long; rw [if_pos rfl, if_pos c4] }; have e' : long y 2 = 29 := by { unfold long; rw [if_pos rfl, if_pos hl] }; omega)
    · have c8 : leap (y + 8) := by unfold leap at hl c4 ⊢; omega
      exact fin (y + 8) (by omega) (by omega) (by have e : long (y + 8) 2 = 29 := by { unfold long; rw [if_pos rfl, if_pos c8] }; have e' : long y 2 = 29 := by { unfold long; rw [if_pos rfl, if_pos hl] }; omega)
theorem again_week (D : Int) : ∃ E, D < E ∧ E ≤ D + 2930 ∧ moOf E = moOf D ∧ (E + 4) % 7 = (D + 4) % 7 := by
  have hv := date_valid D
  have hd := date_dayno D
  generalize yrOf D = y at hv hd
  generalize moOf D = m at hv hd ⊢
  generalize dyOf D = d at hv hd
  obtain ⟨v1, v2, v3, v4⟩ := hv
  have hh := long_hi y m
  have key : D - 31 + 365 - 2 < dayno (y + 1) m 1 ∧ dayno (y + 1) m 1 ≤ D + 370 := by
    have c1 := cum_near y (y + 1) m
    have c2 := years_succ y
    have c5 : 0 ≤ (if leap y then (1 : Int) else 0) ∧ (if leap y then (1 : Int) else 0) ≤ 1 := by split <;> omega
    rw [← hd]
    unfold dayno
    omega
  obtain ⟨k, hk⟩ : ∃ k, (D - dayno (y + 1) m 1) % 7 = k := ⟨_, rfl⟩
  have hl := long_lo (y + 1) m
  have e : dayno (y + 1) m (1 + k) = dayno (y + 1) m 1 + k := by unfold dayno; omega
  obtain ⟨u1, u2, u3⟩ := date_uniq (n := dayno (y + 1) m (1 + k)) (show valid (y + 1) m (1 + k) from ⟨v1, v2, by omega, by omega⟩) rfl
  exact ⟨_, by omega, by omega, u2.symm, by omega⟩
end Tide
namespace Go.Proofs.Ytikjefghpnffkaa
open Go.RowKit
set_option linter.unusedVariables false
theorem hasB_all {s lo hi : Nat} (hs : s < 18446744073709551616) (h : lo ≤ hi) (h' : hi ≤ 62) (hok : Tide.okField (s : Int) lo hi true = true) {n : Int} (n0 : (lo : Int) ≤ n) (n1 : n ≤ hi) : hasB s n = true := by
  have := ((Tide.okField_iff s hs lo hi h h' true).1 hok).2.2 rfl n.toNat (by omega) (by omega)
  unfold hasB
  rw [this, decide_eq_true (show (0 : Int) ≤ n by omega), decide_eq_true (show n < 64 by omega)]; rfl
theorem Cr.day_again {c : Cr} (hf : c.fits) (hok : c.ok = true) {D : Int} (h : c.dayN D = true) : ∃ E, D < E ∧ E ≤ D + 2930 ∧ c.dayN E = true := by
  obtain ⟨ci, ch, cd, cm, cw, ad, aw⟩ := c
  have k2 := Cr.ok_at hok 2 (by omega); have k4 := Cr.ok_at hok 4 (by omega)
  unfold Cr.okAt at k2 k4
  simp only at k2 k4
  unfold Cr.dayN Cr.day at h ⊢
  simp only [Bool.and_eq_true] at h ⊢
  obtain ⟨h1, h2⟩ := h
  have viaDate (hd : hasB cd (Tide.dyOf D) = true) (hw : aw = true ∨ (ad = false ∧ aw = false)) : ∃ E, D < E ∧ E ≤ D + 2930 ∧ hasB cm (Tide.moOf E) = true ∧ (if (ad || aw) = true then hasB cd (Tide.dyOf E) && hasB cw ((E + 4) % 7) else hasB cd (Tide.dyOf E) || hasB cw ((E + 4) % 7)) = true := by
    obtain ⟨E, e1, e2, e3, e4⟩ := Tide.again_date D
    refine ⟨E, e1, e2, by rw [e3]; exact h1, ?_⟩
    rw [e4, hd]
    rcases hw with hw | ⟨hw, hw'⟩
    · subst hw
      rw [if_pos (by simp), hasB_all hf.2.2.2.2 (by omega) (by omega) k4 (by omega) (by omega)]; rfl
    · subst hw hw'; rfl
  have viaWeek (hd : hasB cw ((D + 4) % 7) = true) (hw : ad = true ∨ (ad = false ∧ aw = false)) : ∃ E, D < E ∧ E ≤ D + 2930 ∧ hasB cm (Tide.moOf E) = true ∧ (if (ad || aw) = true then hasB cd (Tide.dyOf E) && hasB cw ((E + 4) % 7) else hasB cd (Tide.dyOf E) || hasB cw ((E + 4) % 7)) = true := by
    obtain ⟨E, e1, e2, e3, e4⟩ := Tide.again_week D
    refine ⟨E, e1, e2, by rw [e3]; exact h1, ?_⟩
    rw [e4, hd]
    rcases hw with hw | ⟨hw, hw'⟩
    · subst hw
      have hv := Tide.date_valid E
      have := Tide.long_hi (Tide.yrOf E) (Tide.moOf E)
      rw [if_pos (by simp), hasB_all hf.2.2.1 (by omega) (by omega) k2 (by have := hv.2.2.1; omega) (by have := hv.2.2.2; omega)]; rfl
    · subst hw hw'; simp
  cases ad
  · cases aw
    · rw [if_neg (by simp), Bool.or_eq_true] at h2
      rcases h2 with h2 | h2
      · exact viaDate h2 (.inr ⟨rfl, rfl⟩)
      · exact viaWeek h2 (.inr ⟨rfl, rfl⟩)
    · rw [if_pos (by simp), Bool.and_eq_true] at h2
      exact viaDate h2.1 (.inl rfl)
  · rw [if_pos (by simp), Bool.and_eq_true] at h2
    exact viaWeek h2.2 (.inl rfl)
theorem Cr.onT_again {c : Cr} (hf : c.fits) (hok : c.ok = true) {shift x : Int} (h : c.onT shift x = true) : ∃ y, x < y ∧ y ≤ x + 2930 * 86400 ∧ c.onT shift y = true := by
  unfold Cr.onT at h
  simp only [Bool.and_eq_true, decide_eq_true_eq] at h
  obtain ⟨⟨h1, h2⟩, h3⟩ := h
  obtain ⟨E, e1, e2, e3⟩ := Cr.day_again hf hok h2
  refine ⟨x + (E - (x + 60 * shift) / 86400) * 86400, by omega, by omega, ?_⟩
  unfold Cr.onT
  rw [show (x + (E - (x + 60 * shift) / 86400) * 86400 + 60 * shift) / 86400 = E by omega, show (x + (E - (x + 60 * shift) / 86400) * 86400 + 60 * shift) % 86400 = (x + 60 * shift) % 86400 by omega, e3, h3, decide_eq_true (by omega)]; rfl
/-- the last one up to a time is near -/
theorem Cr.near {c : Cr} (hf : c.fits) (hok : c.ok = true) {shift t : Int} : ∀ (k : Nat) (x : Int), t - x ≤ k → x ≤ t → c.onT shift x = true → ∃ z, x ≤ z ∧ z ≤ t ∧ t < z + 2930 * 86400 ∧ c.onT shift z = true
  | 0, x, hk, hx, h => ⟨x, by omega, by omega, by omega, h⟩
  | k + 1, x, hk, hx, h => by
    by_cases hn : t < x + 2930 * 86400
    · exact ⟨x, by omega, hx, hn, h⟩
    · obtain ⟨y, y1, y2, y3⟩ := Cr.onT_again hf hok h
      obtain ⟨z, z1, z2, z3, z4⟩ := Cr.near (t := t) hf hok k y (by omega) (by omega) y3
      exact ⟨z, by omega, z2, z3, z4⟩
theorem Cr.last_grows {c : Cr} (hf : c.fits) (hok : c.ok = true) {s t shift x : Int} (hs : okTime s shift) (ht : okTime t shift) (hst : s ≤ t) (h : c.seekO s shift (-1) = some x) : ∃ y, c.seekO t shift (-1) = some y ∧ x ≤ y := by
  obtain ⟨a1, a2, a3, a4, a5⟩ := Cr.dn_some hs h
  obtain ⟨z, z1, z2, z3, z4⟩ := Cr.near (t := t) hf hok (t - x).toNat x (by omega) (by omega) a3
  cases hq : c.seekO t shift (-1) with
  | none => rw [Cr.dn_none ht hq z z2 (by omega) (by unfold dayStart; omega)] at z4; cases z4
  | some y =>
    obtain ⟨b1, b2, b3, b4, b5⟩ := Cr.dn_some ht hq
    refine ⟨y, rfl, ?_⟩
    rcases Int.lt_or_le y z with q | q
    · rw [b4 z q z2] at z4; cases z4
    · omega
theorem Cr.last_same {c : Cr} {s t shift y : Int} (hs : okTime s shift) (ht : okTime t shift) (hst : s ≤ t) (hy : y ≤ s) (h : c.seekO t shift (-1) = some y) : c.seekO s shift (-1) = some y := by
  obtain ⟨b1, b2, b3, b4, b5⟩ := Cr.dn_some ht h
  exact Cr.dn_is hs hy b2 (by unfold dayStart at *; omega) b3 (fun x x0 x1 => b4 x x0 (by omega))
/-- is it a time of the span? in terms of what is sought -/
def inO (a b : Option Int) : Bool := match a with | none => false | some x => (match b with | none => true | some y => decide (y ≤ x))
theorem inO_same {a b : Cr} (ha : a.fits) (hb : b.fits) (oa : a.ok = true) (ob : b.ok = true) {s t shift : Int} (hs : okTime s shift) (ht : okTime t shift) (hst : s ≤ t)
    (hn : ∀ x, s < x → x ≤ t → (if inO (a.seekO s shift (-1)) (b.seekO s shift (-1)) = true then b else a).onT shift x = false) :
    inO (a.seekO t shift (-1)) (b.seekO t shift (-1)) = inO (a.seekO s shift (-1)) (b.seekO s shift (-1)) := by
  cases hi : inO (a.seekO s shift (-1)) (b.seekO s shift (-1))
  · rw [if_neg (by rw [hi]; simp)] at hn
    cases h1 : a.seekO t shift (-1) with
    | none => rfl
    | some x =>
      obtain ⟨c1, c2, c3, c4, c5⟩ := Cr.dn_some ht h1
      have hx : x ≤ s := by
        rcases Int.lt_or_le s x with q | q
        · rw [hn x q c1] at c3; cases c3
        · exact q
      have e1 := Cr.last_same hs ht hst hx h1
      rw [e1] at hi
      cases h2 : b.seekO s shift (-1) with
      | none => rw [h2] at hi; cases hi
      | some y =>
        rw [h2] at hi
        have hxy : ¬ y ≤ x := by intro q; unfold inO at hi; simp only at hi; rw [decide_eq_true q] at hi; cases hi
        obtain ⟨z, z1, z2⟩ := Cr.last_grows hb ob hs ht hst h2
        rw [z1]
        unfold inO
        simp only
        exact decide_eq_false (by omega)
  · rw [if_pos hi] at hn
    cases h1 : a.seekO s shift (-1) with
    | none => rw [h1] at hi; cases hi
    | some x =>
      rw [h1] at hi
      obtain ⟨z, z1, z2⟩ := Cr.last_grows ha oa hs ht hst h1
      rw [z1]
      cases h2 : b.seekO t shift (-1) with
      | none => rfl
      | some y =>
        obtain ⟨c1, c2, c3, c4, c5⟩ := Cr.dn_some ht h2
        have hy : y ≤ s := by
          rcases Int.lt_or_le s y with q | q
          · rw [hn y q c1] at c3; cases c3
          · exact q
        have e1 := Cr.last_same hs ht hst hy h2
        rw [e1] at hi
        have hxy : y ≤ x := by
          by_cases q : y ≤ x
          · exact q
          · unfold inO at hi; simp only at hi; rw [decide_eq_false q] at hi; cases hi
        unfold inO
        simp only
        exact decide_eq_true (by omega)
end Go.Proofs.Ytikjefghpnffkaa
