/- Plain laws of what cron.seek computes: it is the nearest time that fits. Plain laws: what fits comes again within 2930 days; so the last time that fits is never out of sight. Plain laws of span.Edge: from now to the edge nothing turns. The contract of span.Edge. -/
import Derived.Test.YtcnoapogeohmkaaZSpan
import Derived.Test.YtcnoapogeohmkaaZCiv

set_option linter.unusedVariables false
set_option linter.unusedSimpArgs false
namespace Go.Proofs.Ytcnoapogeohmkaa
open Go.RowKit
set_option linter.unusedVariables false
def Cr.dayN (c : Cr) (D : Int) : Bool := c.day (Tide.moOf D) (Tide.dyOf D) ((D + 4) % 7)
def Cr.clock (c : Cr) (r : Int) : Bool := hasB c.h (r / 3600) && hasB c.mi (r / 60 % 60)
/-- does a time fit, and begin a minute? -/
def Cr.onT (c : Cr) (shift n : Int) : Bool := decide ((n + 60 * shift) % 60 = 0) && c.dayN ((n + 60 * shift) / 86400) && c.clock ((n + 60 * shift) % 86400)
def past (side n sec : Int) : Bool := if side < 0 then decide (n ≤ sec) else decide (sec < n)
theorem Cr.minB_is (c : Cr) (at0 sec side : Int) (k : Nat) : c.minB at0 sec side k = (c.clock (60 * Tide.minOf side k) && past side (at0 + 60 * Tide.minOf side k) sec) := by
  unfold Cr.minB Cr.clock past
  rw [show 60 * Tide.minOf side k / 3600 = Tide.minOf side k / 60 by omega, show 60 * Tide.minOf side k / 60 = Tide.minOf side k by omega]
theorem Cr.inDay_none {c : Cr} {at0 sec side : Int} (h : c.inDay at0 sec side = none) (n : Int) (h0 : at0 ≤ n) (h1 : n < at0 + 86400) (hp : past side n sec = true) (hm : (n - at0) % 60 = 0) : c.clock (n - at0) = false := by
  have hn : Tide.firstUnder (c.minB at0 sec side) 1440 = none := by
    unfold Cr.inDay at h
    cases hq : Tide.firstUnder (c.minB at0 sec side) 1440 with
    | none => rfl
    | some k => rw [hq] at h; cases h
  obtain ⟨k, hk, hmk⟩ : ∃ k : Nat, k < 1440 ∧ 60 * Tide.minOf side k = n - at0 := by
    unfold Tide.minOf
    by_cases hs : side < 0
    · exact ⟨(1439 - (n - at0) / 60).toNat, by omega, by rw [if_pos hs]; omega⟩
    · exact ⟨((n - at0) / 60).toNat, by omega, by rw [if_neg hs]; omega⟩
  have := Tide.under_none hn k hk
  rw [Cr.minB_is, hmk, show at0 + (n - at0) = n by omega, hp, Bool.and_true] at this
  exact this
theorem Cr.inDay_some {c : Cr} {at0 sec side n : Int} (h : c.inDay at0 sec side = some n) : at0 ≤ n ∧ n < at0 + 86400 ∧ (n - at0) % 60 = 0 ∧ c.clock (n - at0) = true ∧ past side n sec = true ∧
    ∀ x, at0 ≤ x → x < at0 + 86400 → (x - at0) % 60 = 0 → past side x sec = true → (if side < 0 then n < x else x < n) → c.clock (x - at0) = false := by
  unfold Cr.inDay at h
  cases hq : Tide.firstUnder (c.minB at0 sec side) 1440 with
  | none => rw [hq] at h; cases h
  | some k =>
    rw [hq] at h
    have hn : at0 + 60 * Tide.minOf side k = n := by injection h
    obtain ⟨h1, h2, h3⟩ := Tide.under_some hq
    have hm : 0 ≤ Tide.minOf side k ∧ Tide.minOf side k < 1440 := by unfold Tide.minOf; split <;> omega
    rw [Cr.minB_is, Bool.and_eq_true] at h2
    rw [hn] at h2
    rw [show 60 * Tide.minOf side k = n - at0 by omega] at h2
    refine ⟨by omega, by omega, by omega, h2.1, h2.2, fun x x0 x1 x2 x3 x4 => ?_⟩
    obtain ⟨j, hj, hmj⟩ : ∃ j : Nat, j < k ∧ 60 * Tide.minOf side j = x - at0 := by
      unfold Tide.minOf at hn ⊢
      by_cases hs : side < 0
      · rw [if_pos hs] at x4 hn
        exact ⟨(1439 - (x - at0) / 60).toNat, by omega, by rw [if_pos hs]; omega⟩
      · rw [if_neg hs] at x4 hn
        exact ⟨((x - at0) / 60).toNat, by omega, by rw [if_neg hs]; omega⟩
    have := h3 j hj
    rw [Cr.minB_is, hmj, show at0 + (x - at0) = x by omega, x3, Bool.and_true] at this
    exact this
theorem Cr.onT_in (c : Cr) {shift at0 n : Int} (hz : (at0 + 60 * shift) % 86400 = 0) (h0 : at0 ≤ n) (h1 : n < at0 + 86400) : c.onT shift n = (decide ((n - at0) % 60 = 0) && c.dayN ((at0 + 60 * shift) / 86400) && c.clock (n - at0)) := by
  unfold Cr.onT
  rw [show (n + 60 * shift) / 86400 = (at0 + 60 * shift) / 86400 by omega, show (n + 60 * shift) % 86400 = n - at0 by omega, show (n + 60 * shift) % 60 = (n - at0) % 60 by omega]
/-- seek, with days that fit as told -/
def Cr.seekG (c : Cr) (fit : Nat → Bool) (sec shift side : Int) : Option Int := match Tide.firstUnder (fun i => fit i && (c.inDay (dayAt sec shift side i) sec side).isSome) 3001 with | none => none | some i => inTime (c.inDay (dayAt sec shift side i) sec side)
/-- days fit as told where they reach into time -/
def FitsIn (c : Cr) (fit : Nat → Bool) (sec shift side : Int) : Prop := ∀ i, i < 3001 → -100000086400 < dayAt sec shift side i → dayAt sec shift side i ≤ 100000000000 → fit i = c.dayN ((dayAt sec shift side i + 60 * shift) / 86400)
theorem dayAt_zero (sec shift side : Int) (i : Nat) (hs : side = 1 ∨ side = -1) : (dayAt sec shift side i + 60 * shift) % 86400 = 0 := by
  unfold dayAt dayStart
  rcases hs with rfl | rfl <;> omega
theorem inTime_some {o : Option Int} {n : Int} (h : inTime o = some n) : o = some n ∧ -100000000000 ≤ n ∧ n ≤ 100000000000 := by
  unfold inTime at h
  cases o with
  | none => cases h
  | some m =>
    simp only at h
    split at h
    · cases h
    · cases h; exact ⟨rfl, by omega, by omega⟩
theorem Cr.seekG_up {c : Cr} {fit : Nat → Bool} {sec shift n : Int} (ht : okTime sec shift) (hf : FitsIn c fit sec shift 1) (h : c.seekG fit sec shift 1 = some n) :
    sec < n ∧ n ≤ 100000000000 ∧ c.onT shift n = true ∧ (∀ x, sec < x → x < n → c.onT shift x = false) ∧ n < dayStart sec shift + 3001 * 86400 := by
  obtain ⟨t0, t1, t2, t3⟩ := ht
  unfold Cr.seekG at h
  cases hq : Tide.firstUnder (fun i => fit i && (c.inDay (dayAt sec shift 1 i) sec 1).isSome) 3001 with
  | none => rw [hq] at h; cases h
  | some i =>
    rw [hq] at h
    obtain ⟨h1, h2, h3⟩ := inTime_some h
    obtain ⟨u1, u2, u3⟩ := Tide.under_some hq
    simp only [Bool.and_eq_true] at u2
    obtain ⟨d0, d1, d2, d3, d4, d5⟩ := Cr.inDay_some h1
    have hz := dayAt_zero sec shift 1 i (.inl rfl)
    have hfi := hf i u1 (by omega) (by omega)
    have hp : sec < n := by unfold past at d4; simpa using d4
    refine ⟨hp, h3, ?_, fun x x0 x1 => ?_, ?_⟩
    · rw [Cr.onT_in c hz d0 d1, decide_eq_true d2, d3, ← hfi, u2.1]; rfl
    · have hxp : past 1 x sec = true := by unfold past; simpa using x0
      by_cases hx : dayAt sec shift 1 i ≤ x
      · rw [Cr.onT_in c hz hx (by omega)]
        by_cases hm : (x - dayAt sec shift 1 i) % 60 = 0
        · rw [d5 x hx (by omega) hm hxp (by simpa using x1)]; simp
        · rw [decide_eq_false hm]; rfl
      · obtain ⟨j, hj, hj0, hj1⟩ : ∃ j : Nat, j < i ∧ dayAt sec shift 1 j ≤ x ∧ x < dayAt sec shift 1 j + 86400 := by
          unfold dayAt dayStart at hx ⊢
          exact ⟨((x + 60 * shift) / 86400 - (sec + 60 * shift) / 86400).toNat, by omega, by omega, by omega⟩
        have hzj := dayAt_zero sec shift 1 j (.inl rfl)
        have hfj := hf j (by omega) (by omega) (by omega)
        have := u3 j hj
        rw [Cr.onT_in c hzj hj0 hj1]
        by_cases hm : (x - dayAt sec shift 1 j) % 60 = 0
        · try simp only at this
          rw [← hfj]
          cases hfv : fit j
          · simp
          · rw [hfv, Bool.true_and] at this
            rw [Cr.inDay_none (by simpa using this) x hj0 hj1 hxp hm]; simp
        · rw [decide_eq_false hm]; rfl
    · unfold dayAt at d1; omega
theorem Cr.seekG_up_none {c : Cr} {fit : Nat → Bool} {sec shift : Int} (ht : okTime sec shift) (hf : FitsIn c fit sec shift 1) (h : c.seekG fit sec shift 1 = none) :
    ∀ x, sec < x → x ≤ 100000000000 → x < dayStart sec shift + 3001 * 86400 → c.onT shift x = false := by
  obtain ⟨t0, t1, t2, t3⟩ := ht
  intro x x0 x1 x2
  have hxp : past 1 x sec = true := by unfold past; simpa using x0
  obtain ⟨j, hj, hj0, hj1⟩ : ∃ j : Nat, j < 3001 ∧ dayAt sec shift 1 j ≤ x ∧ x < dayAt sec shift 1 j + 86400 := by
    unfold dayAt dayStart at *
    exact ⟨((x + 60 * shift) / 86400 - (sec + 60 * shift) / 86400).toNat, by omega, by omega, by omega⟩
  have hzj := dayAt_zero sec shift 1 j (.inl rfl)
  have hfj := hf j hj (by omega) (by omega)
  rw [Cr.onT_in c hzj hj0 hj1, ← hfj]
  by_cases hm : (x - dayAt sec shift 1 j) % 60 = 0
  case neg => rw [decide_eq_false hm]; rfl
  cases hfv : fit j
  case false => simp
  unfold Cr.seekG at h
  cases hq : Tide.firstUnder (fun i => fit i && (c.inDay (dayAt sec shift 1 i) sec 1).isSome) 3001 with
  | none =>
    have := Tide.under_none hq j hj
    try simp only at this
    rw [hfv, Bool.true_and] at this
    rw [Cr.inDay_none (by simpa using this) x hj0 hj1 hxp hm]; simp
  | some i =>
    rw [hq] at h
    obtain ⟨u1, u2, u3⟩ := Tide.under_some hq
    simp only [Bool.and_eq_true] at u2
    obtain ⟨y, hy⟩ := Option.isSome_iff_exists.1 u2.2
    obtain ⟨d0, d1, d2, d3, d4, d5⟩ := Cr.inDay_some hy
    have hp : sec < y := by unfold past at d4; simpa using d4
    have hy2 : 100000000000 < y := by
      simp only at h
      rw [hy] at h
      unfold inTime at h
      try simp only at h
      split at h
      · omega
      · cases h
    have hji : j ≤ i := by unfold dayAt at *; omega
    rcases Nat.lt_or_ge j i with c1 | c1
    · have := u3 j c1
      try simp only at this
      rw [hfv, Bool.true_and] at this
      rw [Cr.inDay_none (by simpa using this) x hj0 hj1 hxp hm]; simp
    · have e : j = i := by omega
      subst e
      rw [d5 x hj0 hj1 hm hxp (by show (if (1 : Int) < 0 then y < x else x < y); rw [if_neg (by decide)]; omega)]; simp
theorem Cr.seekG_dn {c : Cr} {fit : Nat → Bool} {sec shift n : Int} (ht : okTime sec shift) (hf : FitsIn c fit sec shift (-1)) (h : c.seekG fit sec shift (-1) = some n) :
    n ≤ sec ∧ -100000000000 ≤ n ∧ c.onT shift n = true ∧ (∀ x, n < x → x ≤ sec → c.onT shift x = false) ∧ dayStart sec shift - 3000 * 86400 ≤ n := by
  obtain ⟨t0, t1, t2, t3⟩ := ht
  unfold Cr.seekG at h
  cases hq : Tide.firstUnder (fun i => fit i && (c.inDay (dayAt sec shift (-1) i) sec (-1)).isSome) 3001 with
  | none => rw [hq] at h; cases h
  | some i =>
    rw [hq] at h
    obtain ⟨h1, h2, h3⟩ := inTime_some h
    obtain ⟨u1, u2, u3⟩ := Tide.under_some hq
    simp only [Bool.and_eq_true] at u2
    obtain ⟨d0, d1, d2, d3, d4, d5⟩ := Cr.inDay_some h1
    have hz := dayAt_zero sec shift (-1) i (.inr rfl)
    have hfi := hf i u1 (by omega) (by omega)
    have hp : n ≤ sec := by unfold past at d4; simpa using d4
    refine ⟨hp, h2, ?_, fun x x0 x1 => ?_, ?_⟩
    · rw [Cr.onT_in c hz d0 d1, decide_eq_true d2, d3, ← hfi, u2.1]; rfl
    · have hxp : past (-1) x sec = true := by unfold past; simpa using x1
      by_cases hx : x < dayAt sec shift (-1) i + 86400
      · rw [Cr.onT_in c hz (by omega) hx]
        by_cases hm : (x - dayAt sec shift (-1) i) % 60 = 0
        · rw [d5 x (by omega) hx hm hxp (by simpa using x0)]; simp
        · rw [decide_eq_false hm]; rfl
      · obtain ⟨j, hj, hj0, hj1⟩ : ∃ j : Nat, j < i ∧ dayAt sec shift (-1) j ≤ x ∧ x < dayAt sec shift (-1) j + 86400 := by
          unfold dayAt dayStart at hx ⊢
          exact ⟨((sec + 60 * shift) / 86400 - (x + 60 * shift) / 86400).toNat, by omega, by omega, by omega⟩
        have hzj := dayAt_zero sec shift (-1) j (.inr rfl)
        have hfj := hf j (by omega) (by omega) (by omega)
        have := u3 j hj
        rw [Cr.onT_in c hzj hj0 hj1]
        by_cases hm : (x - dayAt sec shift (-1) j) % 60 = 0
        · try simp only at this
          rw [← hfj]
          cases hfv : fit j
          · simp
          · rw [hfv, Bool.true_and] at this
            rw [Cr.inDay_none (by simpa using this) x hj0 hj1 hxp hm]; simp
        · rw [decide_eq_false hm]; rfl
    · unfold dayAt at d0; omega
theorem Cr.seekG_dn_none {c : Cr} {fit : Nat → Bool} {sec shift : Int} (ht : okTime sec shift) (hf : FitsIn c fit sec shift (-1)) (h : c.seekG fit sec shift (-1) = none) :
    ∀ x, x ≤ sec → -100000000000 ≤ x → dayStart sec shift - 3000 * 86400 ≤ x → c.onT shift x = false := by
  obtain ⟨t0, t1, t2, t3⟩ := ht
  intro x x0 x1 x2
  have hxp : past (-1) x sec = true := by unfold past; simpa using x0
  obtain ⟨j, hj, hj0, hj1⟩ : ∃ j : Nat, j < 3001 ∧ dayAt sec shift (-1) j ≤ x ∧ x < dayAt sec shift (-1) j + 86400 := by
    unfold dayAt dayStart at *
    exact ⟨((sec + 60 * shift) / 86400 - (x + 60 * shift) / 86400).toNat, by omega, by omega, by omega⟩
  have hzj := dayAt_zero sec shift (-1) j (.inr rfl)
  have hfj := hf j hj (by omega) (by omega)
  rw [Cr.onT_in c hzj hj0 hj1, ← hfj]
  by_cases hm : (x - dayAt sec shift (-1) j) % 60 = 0
  case neg => rw [decide_eq_false hm]; rfl
  cases hfv : fit j
  case false => simp
  unfold Cr.seekG at h
  cases hq : Tide.firstUnder (fun i => fit i && (c.inDay (dayAt sec shift (-1) i) sec (-1)).isSome) 3001 with
  | none =>
    have := Tide.under_none hq j hj
    try simp only at this
    rw [hfv, Bool.true_and] at this
    rw [Cr.inDay_none (by simpa using this) x hj0 hj1 hxp hm]; simp
  | some i =>
    rw [hq] at h
    obtain ⟨u1, u2, u3⟩ := Tide.under_some hq
    simp only [Bool.and_eq_true] at u2
    obtain ⟨y, hy⟩ := Option.isSome_iff_exists.1 u2.2
    obtain ⟨d0, d1, d2, d3, d4, d5⟩ := Cr.inDay_some hy
    have hp : y ≤ sec := by unfold past at d4; simpa using d4
    have hy2 : y < -100000000000 := by
      simp only at h
      rw [hy] at h
      unfold inTime at h
      try simp only at h
      split at h
      · omega
      · cases h
    have hji : j ≤ i := by unfold dayAt at *; omega
    rcases Nat.lt_or_ge j i with c1 | c1
    · have := u3 j c1
      try simp only at this
      rw [hfv, Bool.true_and] at this
      rw [Cr.inDay_none (by simpa using this) x hj0 hj1 hxp hm]; simp
    · have e : j = i := by omega
      subst e
      rw [d5 x hj0 hj1 hm hxp (by show (if (-1 : Int) < 0 then y < x else x < y); rw [if_pos (by decide)]; omega)]; simp
/-- what fits alike is sought alike -/
theorem Cr.seekG_same {c : Cr} {f g : Nat → Bool} {sec shift side : Int} (hs : side = 1 ∨ side = -1) (ht : okTime sec shift) (hf : FitsIn c f sec shift side) (hg : FitsIn c g sec shift side) : c.seekG f sec shift side = c.seekG g sec shift side := by
  have ht' := ht
  obtain ⟨t0, t1, t2, t3⟩ := ht'
  rcases hs with rfl | rfl
  · cases h1 : c.seekG f sec shift 1 with
    | none =>
      cases h2 : c.seekG g sec shift 1 with
      | none => rfl
      | some n =>
        obtain ⟨a1, a2, a3, a4, a5⟩ := Cr.seekG_up ht hg h2
        rw [Cr.seekG_up_none ht hf h1 n a1 a2 a5] at a3; cases a3
    | some m =>
      obtain ⟨b1, b2, b3, b4, b5⟩ := Cr.seekG_up ht hf h1
      cases h2 : c.seekG g sec shift 1 with
      | none => rw [Cr.seekG_up_none ht hg h2 m b1 b2 b5] at b3; cases b3
      | some n =>
        obtain ⟨a1, a2, a3, a4, a5⟩ := Cr.seekG_up ht hg h2
        rcases Int.lt_trichotomy m n with q | q | q
        · rw [a4 m b1 q] at b3; cases b3
        · rw [q]
        · rw [b4 n a1 q] at a3; cases a3
  · cases h1 : c.seekG f sec shift (-1) with
    | none =>
      cases h2 : c.seekG g sec shift (-1) with
      | none => rfl
      | some n =>
        obtain ⟨a1, a2, a3, a4, a5⟩ := Cr.seekG_dn ht hg h2
        rw [Cr.seekG_dn_none ht hf h1 n a1 a2 a5] at a3; cases a3
    | some m =>
      obtain ⟨b1, b2, b3, b4, b5⟩ := Cr.seekG_dn ht hf h1
      cases h2 : c.seekG g sec shift (-1) with
      | none => rw [Cr.seekG_dn_none ht hg h2 m b1 b2 b5] at b3; cases b3
      | some n =>
        obtain ⟨a1, a2, a3, a4, a5⟩ := Cr.seekG_dn ht hg h2
        rcases Int.lt_trichotomy m n with q | q | q
        · rw [b4 n q a1] at a3; cases a3
        · rw [q]
        · rw [a4 m q b1] at b3; cases b3
theorem Cr.fits_prog (c : Cr) (sec shift side : Int) (hs : side = 1 ∨ side = -1) (ht : okTime sec shift) : FitsIn c (fun i => c.dayFit shift (dayAt sec shift side i)) sec shift side := by
  intro i hi h0 h1
  have hz := dayAt_zero sec shift side i hs
  show c.dayFit shift (dayAt sec shift side i) = _
  generalize dayAt sec shift side i = a at h0 h1 hz ⊢
  show c.dayN ((clampT (a + 43200) + 60 * shift) / 86400) = _
  rw [show (clampT (a + 43200) + 60 * shift) / 86400 = (a + 60 * shift) / 86400 by unfold clampT; omega]
theorem Cr.seekO_of {c : Cr} {sec shift side : Int} {o : Option Nat} (h : Tide.firstUnder (c.hit sec shift side) 3001 = o) : c.seekO sec shift side = o.elim none (fun i => inTime (c.inDay (dayAt sec shift side i) sec side)) := by
  unfold Cr.seekO
  rw [h]
  clear h
  cases o <;> simp only [Option.elim]
theorem Cr.seekG_of {c : Cr} {fit : Nat → Bool} {sec shift side : Int} {o : Option Nat} (h : Tide.firstUnder (fun i => fit i && (c.inDay (dayAt sec shift side i) sec side).isSome) 3001 = o) : c.seekG fit sec shift side = o.elim none (fun i => inTime (c.inDay (dayAt sec shift side i) sec side)) := by
  unfold Cr.seekG
  rw [h]
  clear h
  cases o <;> simp only [Option.elim]
theorem Cr.seekO_is (c : Cr) (sec shift side : Int) : c.seekO sec shift side = c.seekG (fun i => c.dayFit shift (dayAt sec shift side i)) sec shift side := by
  obtain ⟨o, ho⟩ : ∃ o, Tide.firstUnder (c.hit sec shift side) 3001 = o := ⟨_, rfl⟩
  rw [Cr.seekO_of ho]
  refine (Cr.seekG_of ?_).symm
  rw [← ho]
  exact congrArg (fun p => Tide.firstUnder p 3001) (funext fun i => rfl)
theorem Cr.up_some {c : Cr} {sec shift n : Int} (ht : okTime sec shift) (h : c.seekO sec shift 1 = some n) : sec < n ∧ n ≤ 100000000000 ∧ c.onT shift n = true ∧ (∀ x, sec < x → x < n → c.onT shift x = false) ∧ n < dayStart sec shift + 3001 * 86400 :=
  by rw [Cr.seekO_is] at h; exact Cr.seekG_up ht (c.fits_prog sec shift 1 (.inl rfl) ht) h
theorem Cr.up_none {c : Cr} {sec shift : Int} (ht : okTime sec shift) (h : c.seekO sec shift 1 = none) : ∀ x, sec < x → x ≤ 100000000000 → x < dayStart sec shift + 3001 * 86400 → c.onT shift x = false :=
  by rw [Cr.seekO_is] at h; exact Cr.seekG_up_none ht (c.fits_prog sec shift 1 (.inl rfl) ht) h
theorem Cr.dn_some {c : Cr} {sec shift n : Int} (ht : okTime sec shift) (h : c.seekO sec shift (-1) = some n) : n ≤ sec ∧ -100000000000 ≤ n ∧ c.onT shift n = true ∧ (∀ x, n < x → x ≤ sec → c.onT shift x = false) ∧ dayStart sec shift - 3000 * 86400 ≤ n :=
  by rw [Cr.seekO_is] at h; exact Cr.seekG_dn ht (c.fits_prog sec shift (-1) (.inr rfl) ht) h
theorem Cr.dn_none {c : Cr} {sec shift : Int} (ht : okTime sec shift) (h : c.seekO sec shift (-1) = none) : ∀ x, x ≤ sec → -100000000000 ≤ x → dayStart sec shift - 3000 * 86400 ≤ x → c.onT shift x = false :=
  by rw [Cr.seekO_is] at h; exact Cr.seekG_dn_none ht (c.fits_prog sec shift (-1) (.inr rfl) ht) h
/-- it is the nearest that fits: found so -/
theorem Cr.up_is {c : Cr} {sec shift n : Int} (ht : okTime sec shift) (h1 : sec < n) (h2 : n ≤ 100000000000) (h3 : n < dayStart sec shift + 3001 * 86400) (h4 : c.onT shift n = true) (h5 : ∀ x, sec < x → x < n → c.onT shift x = false) : c.seekO sec shift 1 = some n := by
  cases h : c.seekO sec shift 1 with
  | none => rw [Cr.up_none ht h n h1 h2 h3] at h4; cases h4
  | some m =>
    obtain ⟨a1, a2, a3, a4, a5⟩ := Cr.up_some ht h
    rcases Int.lt_trichotomy m n with q | q | q
    · rw [h5 m a1 q] at a3; cases a3
    · rw [q]
    · rw [a4 n h1 q] at h4; cases h4
theorem Cr.dn_is {c : Cr} {sec shift n : Int} (ht : okTime sec shift) (h1 : n ≤ sec) (h2 : -100000000000 ≤ n) (h3 : dayStart sec shift - 3000 * 86400 ≤ n) (h4 : c.onT shift n = true) (h5 : ∀ x, n < x → x ≤ sec → c.onT shift x = false) : c.seekO sec shift (-1) = some n := by
  cases h : c.seekO sec shift (-1) with
  | none => rw [Cr.dn_none ht h n h1 h2 h3] at h4; cases h4
  | some m =>
    obtain ⟨a1, a2, a3, a4, a5⟩ := Cr.dn_some ht h
    rcases Int.lt_trichotomy m n with q | q | q
    · rw [a4 n q h1] at h4; cases h4
    · rw [q]
    · rw [h5 m q a1] at a3; cases a3
end Go.Proofs.Ytcnoapogeohmkaa


namespace Tide
theorem cum_near (a b m : Int) : -1 ≤ cum b m - cum a m ∧ cum b m - cum a m ≤ 1 := by
  unfold cum
  by_cases c1 : m ≤ 2
  · rw [if_pos c1, if_pos c1]; omega
  · rw [if_neg c1, if_neg c1]; split <;> split <;> omega
theorem years_eight (y : Int) : years (y + 8) ≤ years y + 2922 := by unfold years; omega
theorem again_date (D : Int) : ∃ E, D < E ∧ E ≤ D + 2930 ∧ moOf E = moOf D ∧ dyOf E = dyOf D := by
  have hv := date_valid D
  have hd := date_dayno D
  generalize yrOf D = y at hv hd
  generalize moOf D = m at hv hd ⊢
  generalize dyOf D = d at hv hd ⊢
  obtain ⟨v1, v2, v3, v4⟩ := hv
  have key : ∀ y', y < y' → y' ≤ y + 8 → d ≤ long y' m → D < dayno y' m d ∧ dayno y' m d ≤ D + 2930 := by
    intro y' h1 h2 h3
    have c1 := cum_near y y' m
    have c2 := years_le h1
    have c3 := years_mono h2
    have c4 := years_eight y
    have c5 : 0 ≤ (if leap y then (1 : Int) else 0) := by split <;> omega
    rw [← hd]
    unfold dayno
    omega
  have fin : ∀ y', y < y' → y' ≤ y + 8 → d ≤ long y' m → ∃ E, D < E ∧ E ≤ D + 2930 ∧ moOf E = m ∧ dyOf E = d := by
    intro y' h1 h2 h3
    obtain ⟨k1, k2⟩ := key y' h1 h2 h3
    obtain ⟨u1, u2, u3⟩ := date_uniq (n := dayno y' m d) (show valid y' m d from ⟨v1, v2, v3, h3⟩) rfl
    exact ⟨_, k1, k2, u2.symm, u3.symm⟩
  by_cases hf : d ≤ long (y + 1) m
  · exact fin (y + 1) (by omega) (by omega) hf
  · have hm : m = 2 := by
      by_cases c : m = 2
      · exact c
      · unfold long at v4 hf; rw [if_neg c] at v4 hf; exact absurd v4 hf
    subst hm
    have hl : leap y := by
      by_cases c : leap y
      · exact c
      · have e : long y 2 = 28 := by unfold long; rw [if_pos rfl, if_neg c]
        have := long_lo (y + 1) 2
        omega
    by_cases c4 : leap (y + 4)
    · exact fin (y + 4) (by omega) (by omega) (by have e : long (y + 4) 2 = 29 := by { unfold long; rw [if_pos rfl, if_pos c4] }; have e' : long y 2 = 29 := by { unfold long; rw [if_pos rfl, if_pos hl] }; omega)
    · have c8 : leap (y + 8) := by unfold leap at hl c4 ⊢; omega
      exact fin (y + 8) (by omega) (by omega) (by have e : long (y + 8) 2 = 29 := by { unfold long; rw [if_pos rfl, if_pos c8] }; have e' : long y 2 = 29 := by { unfold long; rw [if_pos rfl, if_pos hl] }; omega)
theorem again_week (D : Int) : ∃ E, D < E ∧ E ≤ D + 2930 ∧ moOf E = moOf D ∧ (E + 4) % 7 = (D + 4) % 7 := by
  have hv := date_valid D
  have hd := date_dayno D
  generalize yrOf D = y at hv hd
  generalize moOf D = m at hv hd ⊢
  generalize dyOf D = d at hv hd
  obtain ⟨v1, v2, v3, v4⟩ := hv
  have hh := long_hi y m
  have key : D - 31 + 365 - 2 < dayno (y + 1) m 1 ∧ dayno (y + 1) m 1 ≤ D + 370 := by
    have c1 := cum_near y (y + 1) m
    have c2 := years_succ y
    have c5 : 0 ≤ (if leap y then (1 : Int) else 0) ∧ (if leap y then (1 : Int) else 0) ≤ 1 := by split <;> omega
    rw [← hd]
    unfold dayno
    omega
  obtain ⟨k, hk⟩ : ∃ k, (D - dayno (y + 1) m 1) % 7 = k := ⟨_, rfl⟩
  have hl := long_lo (y + 1) m
  have e : dayno (y + 1) m (1 + k) = dayno (y + 1) m 1 + k := by unfold dayno; omega
  obtain ⟨u1, u2, u3⟩ := date_uniq (n := dayno (y + 1) m (1 + k)) (show valid (y + 1) m (1 + k) from ⟨v1, v2, by omega, by omega⟩) rfl
  exact ⟨_, by omega, by omega, u2.symm, by omega⟩
end Tide
namespace Go.Proofs.Ytcnoapogeohmkaa
open Go.RowKit
set_option linter.unusedVariables false
theorem hasB_all {s lo hi : Nat} (hs : s < 18446744073709551616) (h : lo ≤ hi) (h' : hi ≤ 62) (hok : Tide.okField (s : Int) lo hi true = true) {n : Int} (n0 : (lo : Int) ≤ n) (n1 : n ≤ hi) : hasB s n = true := by
  have := ((Tide.okField_iff s hs lo hi h h' true).1 hok).2.2 rfl n.toNat (by omega) (by omega)
  unfold hasB
  rw [this, decide_eq_true (show (0 : Int) ≤ n by omega), decide_eq_true (show n < 64 by omega)]; rfl
theorem Cr.day_again {c : Cr} (hf : c.fits) (hok : c.ok = true) {D : Int} (h : c.dayN D = true) : ∃ E, D < E ∧ E ≤ D + 2930 ∧ c.dayN E = true := by
  obtain ⟨ci, ch, cd, cm, cw, ad, aw⟩ := c
  have k2 := Cr.ok_at hok 2 (by omega); have k4 := Cr.ok_at hok 4 (by omega)
  unfold Cr.okAt at k2 k4
  simp only at k2 k4
  unfold Cr.dayN Cr.day at h ⊢
  simp only [Bool.and_eq_true] at h ⊢
  obtain ⟨h1, h2⟩ := h
  have viaDate (hd : hasB cd (Tide.dyOf D) = true) (hw : aw = true ∨ (ad = false ∧ aw = false)) : ∃ E, D < E ∧ E ≤ D + 2930 ∧ hasB cm (Tide.moOf E) = true ∧ (if (ad || aw) = true then hasB cd (Tide.dyOf E) && hasB cw ((E + 4) % 7) else hasB cd (Tide.dyOf E) || hasB cw ((E + 4) % 7)) = true := by
    obtain ⟨E, e1, e2, e3, e4⟩ := Tide.again_date D
    refine ⟨E, e1, e2, by rw [e3]; exact h1, ?_⟩
    rw [e4, hd]
    rcases hw with hw | ⟨hw, hw'⟩
    · subst hw
      rw [if_pos (by simp), hasB_all hf.2.2.2.2 (by omega) (by omega) k4 (by omega) (by omega)]; rfl
    · subst hw hw'; rfl
  have viaWeek (hd : hasB cw ((D + 4) % 7) = true) (hw : ad = true ∨ (ad = false ∧ aw = false)) : ∃ E, D < E ∧ E ≤ D + 2930 ∧ hasB cm (Tide.moOf E) = true ∧ (if (ad || aw) = true then hasB cd (Tide.dyOf E) && hasB cw ((E + 4) % 7) else hasB cd (Tide.dyOf E) || hasB cw ((E + 4) % 7)) = true := by
    obtain ⟨E, e1, e2, e3, e4⟩ := Tide.again_week D
    refine ⟨E, e1, e2, by rw [e3]; exact h1, ?_⟩
    rw [e4, hd]
    rcases hw with hw | ⟨hw, hw'⟩
    · subst hw
      have hv := Tide.date_valid E
      have := Tide.long_hi (Tide.yrOf E) (Tide.moOf E)
      rw [if_pos (by simp), hasB_all hf.2.2.1 (by omega) (by omega) k2 (by have := hv.2.2.1; omega) (by have := hv.2.2.2; omega)]; rfl
    · subst hw hw'; simp
  cases ad
  · cases aw
    · rw [if_neg (by simp), Bool.or_eq_true] at h2
      rcases h2 with h2 | h2
      · exact viaDate h2 (.inr ⟨rfl, rfl⟩)
      · exact viaWeek h2 (.inr ⟨rfl, rfl⟩)
    · rw [if_pos (by simp), Bool.and_eq_true] at h2
      exact viaDate h2.1 (.inl rfl)
  · rw [if_pos (by simp), Bool.and_eq_true] at h2
    exact viaWeek h2.2 (.inl rfl)
theorem Cr.onT_again {c : Cr} (hf : c.fits) (hok : c.ok = true) {shift x : Int} (h : c.onT shift x = true) : ∃ y, x < y ∧ y ≤ x + 2930 * 86400 ∧ c.onT shift y = true := by
  unfold Cr.onT at h
  simp only [Bool.and_eq_true, decide_eq_true_eq] at h
  obtain ⟨⟨h1, h2⟩, h3⟩ := h
  obtain ⟨E, e1, e2, e3⟩ := Cr.day_again hf hok h2
  refine ⟨x + (E - (x + 60 * shift) / 86400) * 86400, by omega, by omega, ?_⟩
  unfold Cr.onT
  rw [show (x + (E - (x + 60 * shift) / 86400) * 86400 + 60 * shift) / 86400 = E by omega, show (x + (E - (x + 60 * shift) / 86400) * 86400 + 60 * shift) % 86400 = (x + 60 * shift) % 86400 by omega, e3, h3, decide_eq_true (by omega)]; rfl
/-- the last one up to a time is near -/
theorem Cr.near {c : Cr} (hf : c.fits) (hok : c.ok = true) {shift t : Int} : ∀ (k : Nat) (x : Int), t - x ≤ k → x ≤ t → c.onT shift x = true → ∃ z, x ≤ z ∧ z ≤ t ∧ t < z + 2930 * 86400 ∧ c.onT shift z = true
  | 0, x, hk, hx, h => ⟨x, by omega, by omega, by omega, h⟩
  | k + 1, x, hk, hx, h => by
    by_cases hn : t < x + 2930 * 86400
    · exact ⟨x, by omega, hx, hn, h⟩
    · obtain ⟨y, y1, y2, y3⟩ := Cr.onT_again hf hok h
      obtain ⟨z, z1, z2, z3, z4⟩ := Cr.near (t := t) hf hok k y (by omega) (by omega) y3
      exact ⟨z, by omega, z2, z3, z4⟩
theorem Cr.last_grows {c : Cr} (hf : c.fits) (hok : c.ok = true) {s t shift x : Int} (hs : okTime s shift) (ht : okTime t shift) (hst : s ≤ t) (h : c.seekO s shift (-1) = some x) : ∃ y, c.seekO t shift (-1) = some y ∧ x ≤ y := by
  obtain ⟨a1, a2, a3, a4, a5⟩ := Cr.dn_some hs h
  obtain ⟨z, z1, z2, z3, z4⟩ := Cr.near (t := t) hf hok (t - x).toNat x (by omega) (by omega) a3
  cases hq : c.seekO t shift (-1) with
  | none => rw [Cr.dn_none ht hq z z2 (by omega) (by unfold dayStart; omega)] at z4; cases z4
  | some y =>
    obtain ⟨b1, b2, b3, b4, b5⟩ := Cr.dn_some ht hq
    refine ⟨y, rfl, ?_⟩
    rcases Int.lt_or_le y z with q | q
    · rw [b4 z q z2] at z4; cases z4
    · omega
theorem Cr.last_same {c : Cr} {s t shift y : Int} (hs : okTime s shift) (ht : okTime t shift) (hst : s ≤ t) (hy : y ≤ s) (h : c.seekO t shift (-1) = some y) : c.seekO s shift (-1) = some y := by
  obtain ⟨b1, b2, b3, b4, b5⟩ := Cr.dn_some ht h
  exact Cr.dn_is hs hy b2 (by unfold dayStart at *; omega) b3 (fun x x0 x1 => b4 x x0 (by omega))
/-- is it a time of the span? in terms of what is sought -/
def inO (a b : Option Int) : Bool := match a with | none => false | some x => (match b with | none => true | some y => decide (y ≤ x))
theorem inO_same {a b : Cr} (ha : a.fits) (hb : b.fits) (oa : a.ok = true) (ob : b.ok = true) {s t shift : Int} (hs : okTime s shift) (ht : okTime t shift) (hst : s ≤ t)
    (hn : ∀ x, s < x → x ≤ t → (if inO (a.seekO s shift (-1)) (b.seekO s shift (-1)) = true then b else a).onT shift x = false) :
    inO (a.seekO t shift (-1)) (b.seekO t shift (-1)) = inO (a.seekO s shift (-1)) (b.seekO s shift (-1)) := by
  cases hi : inO (a.seekO s shift (-1)) (b.seekO s shift (-1))
  · rw [if_neg (by rw [hi]; simp)] at hn
    cases h1 : a.seekO t shift (-1) with
    | none => rfl
    | some x =>
      obtain ⟨c1, c2, c3, c4, c5⟩ := Cr.dn_some ht h1
      have hx : x ≤ s := by
        rcases Int.lt_or_le s x with q | q
        · rw [hn x q c1] at c3; cases c3
        · exact q
      have e1 := Cr.last_same hs ht hst hx h1
      rw [e1] at hi
      cases h2 : b.seekO s shift (-1) with
      | none => rw [h2] at hi; cases hi
      | some y =>
        rw [h2] at hi
        have hxy : ¬ y ≤ x := by intro q; unfold inO at hi; simp only at hi; rw [decide_eq_true q] at hi; cases hi
        obtain ⟨z, z1, z2⟩ := Cr.last_grows hb ob hs ht hst h2
        rw [z1]
        unfold inO
        simp only
        exact decide_eq_false (by omega)
  · rw [if_pos hi] at hn
    cases h1 : a.seekO s shift (-1) with
    | none => rw [h1] at hi; cases hi
    | some x =>
      rw [h1] at hi
      obtain ⟨z, z1, z2⟩ := Cr.last_grows ha oa hs ht hst h1
      rw [z1]
      cases h2 : b.seekO t shift (-1) with
      | none => rfl
      | some y =>
        obtain ⟨c1, c2, c3, c4, c5⟩ := Cr.dn_some ht h2
        have hy : y ≤ s := by
          rcases Int.lt_or_le s y with q | q
          · rw [hn y q c1] at c3; cases c3
          · exact q
        have e1 := Cr.last_same hs ht hst hy h2
        rw [e1] at hi
        have hxy : y ≤ x := by
          by_cases q : y ≤ x
          · exact q
          · unfold inO at hi; simp only at hi; rw [decide_eq_false q] at hi; cases hi
        unfold inO
        simp only
        exact decide_eq_true (by omega)
end Go.Proofs.Ytcnoapogeohmkaa


namespace Go.Proofs.Ytcnoapogeohmkaa
open Go.RowKit
set_option linter.unusedVariables false
def inAt (a b : Cr) (shift s : Int) : Bool := inO (a.seekO s shift (-1)) (b.seekO s shift (-1))
def edgeG (f : Int → Option Int) (g : Int → Bool) : Nat → Int → Option Int
  | 0, _ => none
  | k + 1, s => match f s with
    | none => none
    | some n => if g n then edgeG f g k n else some n
theorem edgeG_none {f : Int → Option Int} {g : Int → Bool} {k : Nat} {s : Int} (h : f s = none) : edgeG f g (k + 1) s = none := by
  unfold edgeG
  rw [h]
theorem edgeG_some {f : Int → Option Int} {g : Int → Bool} {k : Nat} {s n : Int} (h : f s = some n) : edgeG f g (k + 1) s = if g n then edgeG f g k n else some n := by
  show (match f s with
    | none => none
    | some n => if g n then edgeG f g k n else some n) = _
  rw [h]
def edgeO (a b : Cr) (shift : Int) (now : Bool) (k : Nat) (s : Int) : Option Int := edgeG (fun s => (if now then b else a).seekO s shift 1) (fun n => inAt a b shift n == now) k s
def edgeN (a b : Cr) (sec shift : Int) : Int := if spanE a b = 0 ∧ okTime sec shift then (edgeO a b shift (inAt a b shift sec) 200 sec).getD 0 else 0
def edgeB (a b : Cr) (sec shift : Int) : Bool := if spanE a b = 0 ∧ okTime sec shift then (edgeO a b shift (inAt a b shift sec) 200 sec).isSome else false
theorem spanE_ok {a b : Cr} (h : spanE a b = 0) : a.ok = true ∧ b.ok = true := by
  unfold spanE Cr.err at h
  cases ha : a.ok <;> cases hb : b.ok <;> rw [ha, hb] at h <;> first | exact ⟨rfl, rfl⟩ | (simp at h)
theorem spanInB_is {a b : Cr} {sec shift : Int} (h : spanE a b = 0) (ht : okTime sec shift) : spanInB a b sec shift = inAt a b shift sec := by
  obtain ⟨oa, ob⟩ := spanE_ok h
  unfold spanInB inAt
  rw [if_pos ⟨h, ht⟩]
  unfold Cr.seekB Cr.seekN
  have h1 : a.ok = true ∧ okTime sec shift := ⟨oa, ht⟩
  have h2 : b.ok = true ∧ okTime sec shift := ⟨ob, ht⟩
  rw [if_pos h1, if_pos h2, if_pos h2, if_pos h1]
  generalize a.seekO sec shift (-1) = x
  generalize b.seekO sec shift (-1) = y
  cases x <;> cases y <;> rfl
theorem spanInE_is {a b : Cr} {sec shift : Int} (h : spanE a b = 0) (ht : okTime sec shift) : spanInE a b sec shift = 0 := by
  unfold spanInE; rw [if_pos h, if_pos ht]
theorem Cr.up_time {c : Cr} {s shift n : Int} (ht : okTime s shift) (h : c.seekO s shift 1 = some n) : okTime n shift := by
  obtain ⟨t0, t1, t2, t3⟩ := ht
  obtain ⟨u1, u2, _⟩ := Cr.up_some ⟨t0, t1, t2, t3⟩ h
  exact ⟨by omega, u2, t2, t3⟩
theorem edgeO_zero (a b : Cr) (shift : Int) (now : Bool) (s : Int) : edgeO a b shift now 0 s = none := by unfold edgeO edgeG; rfl
theorem edgeO_none {a b : Cr} {shift : Int} {now : Bool} {k : Nat} {s : Int} (h : (if now then b else a).seekO s shift 1 = none) : edgeO a b shift now (k + 1) s = none := by unfold edgeO; exact edgeG_none h
theorem edgeO_some {a b : Cr} {shift : Int} {now : Bool} {k : Nat} {s n : Int} (h : (if now then b else a).seekO s shift 1 = some n) : edgeO a b shift now (k + 1) s = if (inAt a b shift n == now) = true then edgeO a b shift now k n else some n := by unfold edgeO; exact edgeG_some h
theorem edge_law {a b : Cr} (ha : a.fits) (hb : b.fits) (oa : a.ok = true) (ob : b.ok = true) {shift : Int} (now : Bool) (k : Nat) : ∀ (s n : Int), okTime s shift → inAt a b shift s = now → edgeO a b shift now k s = some n →
    s < n ∧ okTime n shift ∧ inAt a b shift n ≠ now ∧ ∀ t, s ≤ t → t < n → inAt a b shift t = now := by
  induction k with
  | zero => intro s n ht hi h; rw [edgeO_zero] at h; cases h
  | succ k ih =>
    intro s n ht hi h
    cases hq : (if now then b else a).seekO s shift 1 with
    | none => rw [edgeO_none hq] at h; cases h
    | some m =>
      rw [edgeO_some hq] at h
      have hm := Cr.up_time ht hq
      obtain ⟨u1, u2, u3, u4, u5⟩ := Cr.up_some ht hq
      have low : ∀ t, s ≤ t → t < m → inAt a b shift t = now := by
        intro t t0 t1
        have htt : okTime t shift := by obtain ⟨q0, q1, q2, q3⟩ := ht; exact ⟨by omega, by omega, q2, q3⟩
        have e := inO_same ha hb oa ob ht htt t0 (fun x x0 x1 => by
          rw [show inO (a.seekO s shift (-1)) (b.seekO s shift (-1)) = now from hi]
          exact u4 x x0 (by omega))
        exact e.trans hi
      by_cases hn : inAt a b shift m = now
      · rw [if_pos (by rw [hn]; simp)] at h
        obtain ⟨r1, r2, r3, r4⟩ := ih m n hm hn h
        refine ⟨by omega, r2, r3, fun t t0 t1 => ?_⟩
        rcases Int.lt_or_le t m with q | q
        · exact low t t0 q
        · exact r4 t q t1
      · rw [if_neg (by simpa using hn)] at h
        have e : m = n := by injection h
        subst e
        exact ⟨u1, hm, hn, low⟩
/-- what Edge tells -/
theorem edge_says {a b : Cr} (ha : a.fits) (hb : b.fits) (sec shift : Int) : (edgeB a b sec shift = false ∧ edgeN a b sec shift = 0 ∧ (spanInE a b sec shift = 0 ∨ spanInE a b sec shift = 1)) ∨
    (edgeB a b sec shift = true ∧ spanE a b = 0 ∧ okTime sec shift ∧ okTime (edgeN a b sec shift) shift ∧ sec < edgeN a b sec shift ∧ spanInB a b sec shift ≠ spanInB a b (edgeN a b sec shift) shift ∧ ∀ t, sec ≤ t → t < edgeN a b sec shift → spanInB a b t shift = spanInB a b sec shift) := by
  by_cases hg : spanE a b = 0 ∧ okTime sec shift
  · unfold edgeB edgeN
    rw [if_pos hg, if_pos hg]
    obtain ⟨oa, ob⟩ := spanE_ok hg.1
    cases hq : edgeO a b shift (inAt a b shift sec) 200 sec with
    | none => exact .inl ⟨rfl, rfl, .inl (spanInE_is hg.1 hg.2)⟩
    | some n =>
      obtain ⟨r1, r2, r3, r4⟩ := edge_law ha hb oa ob _ 200 sec n hg.2 rfl hq
      refine .inr ⟨rfl, hg.1, hg.2, r2, r1, ?_, fun t t0 t1 => ?_⟩
      · show _ ≠ spanInB a b n shift
        rw [spanInB_is hg.1 hg.2, spanInB_is hg.1 r2]; exact fun e => r3 e.symm
      · have htt : okTime t shift := by
          have t1' : t < n := t1
          obtain ⟨q0, q1, q2, q3⟩ := hg.2
          obtain ⟨p0, p1, p2, p3⟩ := r2
          exact ⟨by omega, by omega, q2, q3⟩
        rw [spanInB_is hg.1 htt, spanInB_is hg.1 hg.2]; exact r4 t t0 t1
  · left
    unfold edgeB edgeN
    rw [if_neg hg, if_neg hg]
    refine ⟨rfl, rfl, ?_⟩
    unfold spanInE
    by_cases h : spanE a b = 0
    · rw [if_pos h]; split
      · exact .inl rfl
      · exact .inr rfl
    · rw [if_neg h]; exact .inr rfl
end Go.Proofs.Ytcnoapogeohmkaa


namespace Go.Proofs.Ytcnoapogeohmkaa
open Go.RowKit
set_option linter.unusedVariables false
theorem put7 {W w0 : World} {h g B : Nat} {t t' : TypeId} {cs : Array Value} {y0 y1 y2 y3 y4 y5 y6 : Value} (hx : Tide.At W h t cs) (hy : Tide.At W g t' #[y0, y1, y2, y3, y4, y5, y6]) (hn : h ≠ g) (hb : Below B w0 W) (hg : B ≤ g) (u0 u1 u2 u3 u4 u5 u6 : Value) :
    Tide.At ((((((((W).setCell ⟨g, 0, none⟩ u0).setCell ⟨g, 1, none⟩ u1).setCell ⟨g, 2, none⟩ u2).setCell ⟨g, 3, none⟩ u3).setCell ⟨g, 4, none⟩ u4).setCell ⟨g, 5, none⟩ u5).setCell ⟨g, 6, none⟩ u6) h t cs ∧ Tide.At ((((((((W).setCell ⟨g, 0, none⟩ u0).setCell ⟨g, 1, none⟩ u1).setCell ⟨g, 2, none⟩ u2).setCell ⟨g, 3, none⟩ u3).setCell ⟨g, 4, none⟩ u4).setCell ⟨g, 5, none⟩ u5).setCell ⟨g, 6, none⟩ u6) g t' #[u0, u1, u2, u3, u4, u5, u6] ∧ Below B w0 ((((((((W).setCell ⟨g, 0, none⟩ u0).setCell ⟨g, 1, none⟩ u1).setCell ⟨g, 2, none⟩ u2).setCell ⟨g, 3, none⟩ u3).setCell ⟨g, 4, none⟩ u4).setCell ⟨g, 5, none⟩ u5).setCell ⟨g, 6, none⟩ u6) :=
  ⟨(((((((hx).other (p := ⟨g, 0, none⟩) hn u0).other (p := ⟨g, 1, none⟩) hn u1).other (p := ⟨g, 2, none⟩) hn u2).other (p := ⟨g, 3, none⟩) hn u3).other (p := ⟨g, 4, none⟩) hn u4).other (p := ⟨g, 5, none⟩) hn u5).other (p := ⟨g, 6, none⟩) hn u6, by
    have p0 : Tide.At ((W).setCell ⟨g, 0, none⟩ u0) g t' #[u0, y1, y2, y3, y4, y5, y6] := hy.put 0 u0
    have p1 : Tide.At (((W).setCell ⟨g, 0, none⟩ u0).setCell ⟨g, 1, none⟩ u1) g t' #[u0, u1, y2, y3, y4, y5, y6] := p0.put 1 u1
    have p2 : Tide.At ((((W).setCell ⟨g, 0, none⟩ u0).setCell ⟨g, 1, none⟩ u1).setCell ⟨g, 2, none⟩ u2) g t' #[u0, u1, u2, y3, y4, y5, y6] := p1.put 2 u2
    have p3 : Tide.At (((((W).setCell ⟨g, 0, none⟩ u0).setCell ⟨g, 1, none⟩ u1).setCell ⟨g, 2, none⟩ u2).setCell ⟨g, 3, none⟩ u3) g t' #[u0, u1, u2, u3, y4, y5, y6] := p2.put 3 u3
    have p4 : Tide.At ((((((W).setCell ⟨g, 0, none⟩ u0).setCell ⟨g, 1, none⟩ u1).setCell ⟨g, 2, none⟩ u2).setCell ⟨g, 3, none⟩ u3).setCell ⟨g, 4, none⟩ u4) g t' #[u0, u1, u2, u3, u4, y5, y6] := p3.put 4 u4
    have p5 : Tide.At (((((((W).setCell ⟨g, 0, none⟩ u0).setCell ⟨g, 1, none⟩ u1).setCell ⟨g, 2, none⟩ u2).setCell ⟨g, 3, none⟩ u3).setCell ⟨g, 4, none⟩ u4).setCell ⟨g, 5, none⟩ u5) g t' #[u0, u1, u2, u3, u4, u5, y6] := p4.put 5 u5
    have p6 : Tide.At ((((((((W).setCell ⟨g, 0, none⟩ u0).setCell ⟨g, 1, none⟩ u1).setCell ⟨g, 2, none⟩ u2).setCell ⟨g, 3, none⟩ u3).setCell ⟨g, 4, none⟩ u4).setCell ⟨g, 5, none⟩ u5).setCell ⟨g, 6, none⟩ u6) g t' #[u0, u1, u2, u3, u4, u5, u6] := p5.put 6 u6
    exact p6, (((((((hb).setCell (p := ⟨g, 0, none⟩) hg u0).setCell (p := ⟨g, 1, none⟩) hg u1).setCell (p := ⟨g, 2, none⟩) hg u2).setCell (p := ⟨g, 3, none⟩) hg u3).setCell (p := ⟨g, 4, none⟩) hg u4).setCell (p := ⟨g, 5, none⟩) hg u5).setCell (p := ⟨g, 6, none⟩) hg u6⟩
end Go.Proofs.Ytcnoapogeohmkaa
