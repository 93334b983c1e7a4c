/- Plain laws of what cron.seek computes: it is the nearest time that fits. -/
import Derived.Test.YtikjefghpnffkaaCronX
namespace Go.Proofs.Ytikjefghpnffkaa
open Go.RowKit
set_option linter.unusedVariables false
def Cr.dayN (c : Cr) (D : Int) : Bool := c.day (Tide.moOf D) (Tide.dyOf D) ((D + 4) % 7)
def Cr.clock (c : Cr) (r : Int) : Bool := hasB c.h (r / 3600) && hasB c.mi (r / 60 % 60)
/-- does a time fit, and begin a minute? -/
def Cr.onT (c : Cr) (shift n : Int) : Bool := decide ((n + 60 * shift) % 60 = 0) && c.dayN ((n + 60 * shift) / 86400) && c.clock ((n + 60 * shift) % 86400)
def past (side n sec : Int) : Bool := if side < 0 then decide (n ≤ sec) else decide (sec < n)
theorem Cr.minB_is (c : Cr) (at0 sec side : Int) (k : Nat) : c.minB at0 sec side k = (c.clock (60 * Tide.minOf side k) && past side (at0 + 60 * Tide.minOf side k) sec) := by
  unfold Cr.minB Cr.clock past
  rw [show 60 * Tide.minOf side k / 3600 = Tide.minOf side k / 60 by omega, show 60 * Tide.minOf side k / 60 = Tide.minOf side k by omega]
theorem Cr.inDay_none {c : Cr} {at0 sec side : Int} (h : c.inDay at0 sec side = none) (n : Int) (h0 : at0 ≤ n) (h1 : n < at0 + 86400) (hp : past side n sec = true) (hm : (n - at0) % 60 = 0) : c.clock (n - at0) = false := by
  have hn : Tide.firstUnder (c.minB at0 sec side) 1440 = none := by
    unfold Cr.inDay at h
    cases hq : Tide.firstUnder (c.minB at0 sec side) 1440 with
    | none => rfl
    | some k => rw [hq] at h; cases h
  obtain ⟨k, hk, hmk⟩ : ∃ k : Nat, k < 1440 ∧ 60 * Tide.minOf side k = n - at0 := by
    unfold Tide.minOf
    by_cases hs : side < 0
    · exact ⟨(1439 - (n - at0) / 60).toNat, by omega, by rw [if_pos hs]; omega⟩
    · exact ⟨((n - at0) / 60).toNat, by omega, by rw [if_neg hs]; omega⟩
  have := Tide.under_none hn k hk
  rw [Cr.minB_is, hmk, show at0 + (n - at0) = n by omega, hp, Bool.and_true] at this
  exact this
theorem Cr.inDay_some {c : Cr} {at0 sec side n : Int} (h : c.inDay at0 sec side = some n) : at0 ≤ n ∧ n < at0 + 86400 ∧ (n - at0) % 60 = 0 ∧ c.clock (n - at0) = true ∧ past side n sec = true ∧
    ∀ x, at0 ≤ x → x < at0 + 86400 → (x - at0) % 60 = 0 → past side x sec = true → (if side < 0 then n < x else x < n) → c.clock (x - at0) = false := by
  unfold Cr.inDay at h
  cases hq : Tide.firstUnder (c.minB at0 sec side) 1440 with
  | none => rw [hq] at h; cases h
  | some k =>
    rw [hq] at h
    have hn : at0 + 60 * Tide.minOf side k = n := by injection h
    obtain ⟨h1, h2, h3⟩ := Tide.under_some hq
    have hm : 0 ≤ Tide.minOf side k ∧ Tide.minOf side k < 1440 := by unfold Tide.minOf; split <;> omega
    rw [Cr.minB_is, Bool.and_eq_true] at h2
    rw [hn] at h2
    rw [show 60 * Tide.minOf side k = n - at0 by omega] at h2
    refine ⟨by omega, by omega, by omega, h2.1, h2.2, fun x x0 x1 x2 x3 x4 => ?_⟩
    obtain ⟨j, hj, hmj⟩ : ∃ j : Nat, j < k ∧ 60 * Tide.minOf side j = x - at0 := by
      unfold Tide.minOf at hn ⊢
      by_cases hs : side < 0
      · rw [if_pos hs] at x4 hn
        exact ⟨(1439 - (x - at0) / 60).toNat, by omega, by rw [if_pos hs]; omega⟩
      · rw [if_neg hs] at x4 hn
        exact ⟨((x - at0) / 60).toNat, by omega, by rw [if_neg hs]; omega⟩
    have := h3 j hj
    rw [Cr.minB_is, hmj, show at0 + (x - at0) = x by omega, x3, Bool.and_true] at this
    exact this
theorem Cr.onT_in (c : Cr) {shift at0 n : Int} (hz : (at0 + 60 * shift) % 86400 = 0) (h0 : at0 ≤ n) (h1 : n < at0 + 86400) : c.onT shift n = (decide ((n - at0) % 60 = 0) && c.dayN ((at0 + 60 * shift) / 86400) && c.clock (n - at0)) := by
  unfold Cr.onT
  rw [show (n + 60 * shift) / 86400 = (at0 + 60 * shift) / 86400 by omega, show (n + 60 * shift) % 86400 = n - at0 by omega, show (n + 60 * shift) % 60 = (n - at0) % 60 by omega]
/-- seek, with days that fit as told -/
def Cr.seekG (c : Cr) (fit : Nat → Bool) (sec shift side : Int) : Option Int := match Tide.firstUnder (fun i => fit i && (c.inDay (dayAt sec shift side i) sec side).isSome) 3001 with | none => none | some i => inTime (c.inDay (dayAt sec shift side i) sec side)
/-- days fit as told where they reach into time -/
def FitsIn (c : Cr) (fit : Nat → Bool) (sec shift side : Int) : Prop := ∀ i, i < 3001 → -100000086400 < dayAt sec shift side i → dayAt sec shift side i ≤ 100000000000 → fit i = c.dayN ((dayAt sec shift side i + 60 * shift) / 86400)
theorem dayAt_zero (sec shift side : Int) (i : Nat) (hs : side = 1 ∨ side = -1) : (dayAt sec shift side i + 60 * shift) % 86400 = 0 := by
  unfold dayAt dayStart
  rcases hs with rfl | rfl <;> omega
theorem inTime_some {o : Option Int} {n : Int} (h : inTime o = some n) : o = some n ∧ -100000000000 ≤ n ∧ n ≤ 100000000000 := by
  unfold inTime at h
  cases o with
  | none => cases h
  | some m =>
    simp only at h
    split at h
    · cases h
    · cases h; exact ⟨rfl, by omega, by omega⟩
theorem Cr.seekG_up {c : Cr} {fit : Nat → Bool} {sec shift n : Int} (ht : okTime sec shift) (hf : FitsIn c fit sec shift 1) (h : c.seekG fit sec shift 1 = some n) :
    sec < n ∧ n ≤ 100000000000 ∧ c.onT shift n = true ∧ (∀ x, sec < x → x < n → c.onT shift x = false) ∧ n < dayStart sec shift + 3001 * 86400 := by
  obtain ⟨t0, t1, t2, t3⟩ := ht
  unfold Cr.seekG at h
  cases hq : Tide.firstUnder (fun i => fit i && (c.inDay (dayAt sec shift 1 i) sec 1).isSome) 3001 with
  | none => rw [hq] at h; cases h
  | some i =>
    rw [hq] at h
    obtain ⟨h1, h2, h3⟩ := inTime_some h
    obtain ⟨u1, u2, u3⟩ := Tide.under_some hq
    simp only [Bool.and_eq_true] at u2
    obtain ⟨d0, d1, d2, d3, d4, d5⟩ := Cr.inDay_some h1
    have hz := dayAt_zero sec shift 1 i (.inl rfl)
    have hfi := hf i u1 (by omega) (by omega)
    have hp : sec < n := by unfold past at d4; simpa using d4
    refine ⟨hp, h3, ?_, fun x x0 x1 => ?_, ?_⟩
    · rw [Cr.onT_in c hz d0 d1, decide_eq_true d2, d3, ← hfi, u2.1]; rfl
    · have hxp : past 1 x sec = true := by unfold past; simpa using x0
      by_cases hx : dayAt sec shift 1 i ≤ x
      · rw [Cr.onT_in c hz hx (by omega)]
        by_cases hm : (x - dayAt sec shift 1 i) % 60 = 0
        · rw [d5 x hx (by omega) hm hxp (by simpa using x1)]; simp
        · rw [decide_eq_false hm]; rfl
      · obtain ⟨j, hj, hj0, hj1⟩ : ∃ j : Nat, j < i ∧ dayAt sec shift 1 j ≤ x ∧ x < dayAt sec shift 1 j + 86400 := by
          unfold dayAt dayStart at hx ⊢
          exact ⟨((x + 60 * shift) / 86400 - (sec + 60 * shift) / 86400).toNat, by omega, by omega, by omega⟩
        have hzj := dayAt_zero sec shift 1 j (.inl rfl)
        have hfj := hf j (by omega) (by omega) (by omega)
        have := u3 j hj
        rw [Cr.onT_in c hzj hj0 hj1]
        by_cases hm : (x - dayAt sec shift 1 j) % 60 = 0
        · try simp only at this
          rw [← hfj]
          cases hfv : fit j
          · simp
          · rw [hfv, Bool.true_and] at this
            rw [Cr.inDay_none (by simpa using this) x hj0 hj1 hxp hm]; simp
        · rw [decide_eq_false hm]; rfl
    · unfold dayAt at d1; omega
theorem Cr.seekG_up_none {c : Cr} {fit : Nat → Bool} {sec shift : Int} (ht : okTime sec shift) (hf : FitsIn c fit sec shift 1) (h : c.seekG fit sec shift 1 = none) :
    ∀ x, sec < x → x ≤ 100000000000 → x < dayStart sec shift + 3001 * 86400 → c.onT shift x = false := by
  obtain ⟨t0, t1, t2, t3⟩ := ht
  intro x x0 x1 x2
  have hxp : past 1 x sec = true := by unfold past; simpa using x0
  obtain ⟨j, hj, hj0, hj1⟩ : ∃ j : Nat, j < 3001 ∧ dayAt sec shift 1 j ≤ x ∧ x < dayAt sec shift 1 j + 86400 := by
    unfold dayAt dayStart at *
    exact ⟨((x + 60 * shift) / 86400 - (sec + 60 * shift) / 86400).toNat, by omega, by omega, by omega⟩
  have hzj := dayAt_zero sec shift 1 j (.inl rfl)
  have hfj := hf j hj (by omega) (by omega)
  rw [Cr.onT_in c hzj hj0 hj1, ← hfj]
  by_cases hm : (x - dayAt sec shift 1 j) % 60 = 0
  case neg => rw [decide_eq_false hm]; rfl
  cases hfv : fit j
  case false => simp
  unfold Cr.seekG at h
  cases hq : Tide.firstUnder (fun i => fit i && (c.inDay (dayAt sec shift 1 i) sec 1).isSome) 3001 with
  | none =>
    have := Tide.under_none hq j hj
    try simp only at this
    rw [hfv, Bool.true_and] at this
    rw [Cr.inDay_none (by simpa using this) x hj0 hj1 hxp hm]; simp
  | some i =>
    rw [hq] at h
    obtain ⟨u1, u2, u3⟩ := Tide.under_some hq
    simp only [Bool.and_eq_true] at u2
    obtain ⟨y, hy⟩ := Option.isSome_iff_exists.1 u2.2
    obtain ⟨d0, d1, d2, d3, d4, d5⟩ := Cr.inDay_some hy
    have hp : sec < y := by unfold past at d4; simpa using d4
    have hy2 : 100000000000 < y := by
      simp only at h
      rw [hy] at h
      unfold inTime at h
      try simp only at h
      split at h
      · omega
      · cases h
    have hji : j ≤ i := by unfold dayAt at *; omega
    rcases Nat.lt_or_ge j i with c1 | c1
    · have := u3 j c1
      try simp only at this
      rw [hfv, Bool.true_and] at this
      rw [Cr.inDay_none (by simpa using this) x hj0 hj1 hxp hm]; simp
    · have e : j = i := by omega
      subst e
      rw [d5 x hj0 hj1 hm hxp (by show (if (1 : Int) < 0 then y < x else x < y); rw [if_neg (by decide)]; omega)]; simp
theorem Cr.seekG_dn {c : Cr} {fit : Nat → Bool} {sec shift n : Int} (ht : okTime sec shift) (hf : FitsIn c fit sec shift (-1)) (h : c.seekG fit sec shift (-1) = some n) :
    n ≤ sec ∧ -100000000000 ≤ n ∧ c.onT shift n = true ∧ (∀ x, n < x → x ≤ sec → c.onT shift x = false) ∧ dayStart sec shift - 3000 * 86400 ≤ n := by
  obtain ⟨t0, t1, t2, t3⟩ := ht
  unfold Cr.seekG at h
  cases hq : Tide.firstUnder (fun i => fit i && (c.inDay (dayAt sec shift (-1) i) sec (-1)).isSome) 3001 with
  | none => rw [hq] at h; cases h
  | some i =>
    rw [hq] at h
    obtain ⟨h1, h2, h3⟩ := inTime_some h
    obtain ⟨u1, u2, u3⟩ := Tide.under_some hq
    simp only [Bool.and_eq_true] at u2
    obtain ⟨d0, d1, d2, d3, d4, d5⟩ := Cr.inDay_some h1
    have hz := dayAt_zero sec shift (-1) i (.inr rfl)
    have hfi := hf i u1 (by omega) (by omega)
    have hp : n ≤ sec := by unfold past at d4; simpa using d4
    refine ⟨hp, h2, ?_, fun x x0 x1 => ?_, ?_⟩
    · rw [Cr.onT_in c hz d0 d1, decide_eq_true d2, d3, ← hfi, u2.1]; rfl
    · have hxp : past (-1) x sec = true := by unfold past; simpa using x1
      by_cases hx : x < dayAt sec shift (-1) i + 86400
      · rw [Cr.onT_in c hz (by omega) hx]
        by_cases hm : (x - dayAt sec shift (-1) i) % 60 = 0
        · rw [d5 x (by omega) hx hm hxp (by simpa using x0)]; simp
        · rw [decide_eq_false hm]; rfl
      · obtain ⟨j, hj, hj0, hj1⟩ : ∃ j : Nat, j < i ∧ dayAt sec shift (-1) j ≤ x ∧ x < dayAt sec shift (-1) j + 86400 := by
          unfold dayAt dayStart at hx ⊢
          exact ⟨((sec + 60 * shift) / 86400 - (x + 60 * shift) / 86400).toNat, by omega, by omega, by omega⟩
        have hzj := dayAt_zero sec shift (-1) j (.inr rfl)
        have hfj := hf j (by omega) (by omega) (by omega)
        have := u3 j hj
        rw [Cr.onT_in c hzj hj0 hj1]
        by_cases hm : (x - dayAt sec shift (-1) j) % 60 = 0
        · try simp only at this
          rw [← hfj]
          cases hfv : fit j
          · simp
          · rw [hfv, Bool.true_and] at this
            rw [Cr.inDay_none (by simpa using this) x hj0 hj1 hxp hm]; simp
        · rw [decide_eq_false hm]; rfl
    · unfold dayAt at d0; omega
theorem Cr.seekG_dn_none {c : Cr} {fit : Nat → Bool} {sec shift : Int} (ht : okTime sec shift) (hf : FitsIn c fit sec shift (-1)) (h : c.seekG fit sec shift (-1) = none) :
    ∀ x, x ≤ sec → -100000000000 ≤ x → dayStart sec shift - 3000 * 86400 ≤ x → c.onT shift x = false := by
  obtain ⟨t0, t1, t2, t3⟩ := ht
  intro x x0 x1 x2
  have hxp : past (-1) x sec = true := by unfold past; simpa using x0
  obtain ⟨j, hj, hj0, hj1⟩ : ∃ j : Nat, j < 3001 ∧ dayAt sec shift (-1) j ≤ x ∧ x < dayAt sec shift (-1) j + 86400 := by
    unfold dayAt dayStart at *
    exact ⟨((sec + 60 * shift) / 86400 - (x + 60 * shift) / 86400).toNat, by omega, by omega, by omega⟩
  have hzj := dayAt_zero sec shift (-1) j (.inr rfl)
  have hfj := hf j hj (by omega) (by omega)
  rw [Cr.onT_in c hzj hj0 hj1, ← hfj]
  by_cases hm : (x - dayAt sec shift (-1) j) % 60 = 0
  case neg => rw [decide_eq_false hm]; rfl
  cases hfv : fit j
  case false => simp
  unfold Cr.seekG at h
  cases hq : Tide.firstUnder (fun i => fit i && (c.inDay (dayAt sec shift (-1) i) sec (-1)).isSome) 3001 with
  | none =>
    have := Tide.under_none hq j hj
    try simp only at this
    rw [hfv, Bool.true_and] at this
    rw [Cr.inDay_none (by simpa using this) x hj0 hj1 hxp hm]; simp
  | some i =>
    rw [hq] at h
    obtain ⟨u1, u2, u3⟩ := Tide.under_some hq
    simp only [Bool.and_eq_true] at u2
    obtain ⟨y, hy⟩ := Option.isSome_iff_exists.1 u2.2
    obtain ⟨d0, d1, d2, d3, d4, d5⟩ := Cr.inDay_some hy
    have hp : y ≤ sec := by unfold past at d4; simpa using d4
    have hy2 : y < -100000000000 := by
      simp only at h
      rw [hy] at h
      unfold inTime at h
      try simp only at h
      split at h
      · omega
      · cases h
    have hji : j ≤ i := by unfold dayAt at *; omega
    rcases Nat.lt_or_ge j i with c1 | c1
    · have := u3 j c1
      try simp only at this
      rw [hfv, Bool.true_and] at this
      rw [Cr.inDay_none (by simpa using this) x hj0 hj1 hxp hm]; simp
    · have e : j = i := by omega
      subst e
      rw [d5 x hj0 hj1 hm hxp (by show (if (-1 : Int) < 0 then y < x else x < y); rw [if_pos (by decide)]; omega)]; simp
/-- what fits alike is sought alike -/
theorem Cr.seekG_same {c : Cr} {f g : Nat → Bool} {sec shift side : Int} (hs : side = 1 ∨ side = -1) (ht : okTime sec shift) (hf : FitsIn c f sec shift side) (hg : FitsIn c g sec shift side) : c.seekG f sec shift side = c.seekG g sec shift side := by
  have ht' := ht
  obtain ⟨t0, t1, t2, t3⟩ := ht'
  rcases hs with rfl | rfl
  · cases h1 : c.seekG f sec shift 1 with
    | none =>
      cases h2 : c.seekG g sec shift 1 with
      | none => rfl
      | some n =>
        obtain ⟨a1, a2, a3, a4, a5⟩ := Cr.seekG_up ht hg h2
        rw [Cr.seekG_up_none ht hf h1 n a1 a2 a5] at a3; cases a3
    | some m =>
      obtain ⟨b1, b2, b3, b4, b5⟩ := Cr.seekG_up ht hf h1
      cases h2 : c.seekG g sec shift 1 with
      | none => rw [Cr.seekG_up_none ht hg h2 m b1 b2 b5] at b3; cases b3
      | some n =>
        obtain ⟨a1, a2, a3, a4, a5⟩ := Cr.seekG_up ht hg h2
        rcases Int.lt_trichotomy m n with q | q | q
        · rw [a4 m b1 q] at b3; cases b3
        · rw [q]
        · rw [b4 n a1 q] at a3; cases a3
  · cases h1 : c.seekG f sec shift (-1) with
    | none =>
      cases h2 : c.seekG g sec shift (-1) with
      | none => rfl
      | some n =>
        obtain ⟨a1, a2, a3, a4, a5⟩ := Cr.seekG_dn ht hg h2
        rw [Cr.seekG_dn_none ht hf h1 n a1 a2 a5] at a3; cases a3
    | some m =>
      obtain ⟨b1, b2, b3, b4, b5⟩ := Cr.seekG_dn ht hf h1
      cases h2 : c.seekG g sec shift (-1) with
      | none => rw [Cr.seekG_dn_none ht hg h2 m b1 b2 b5] at b3; cases b3
      | some n =>
        obtain ⟨a1, a2, a3, a4, a5⟩ := Cr.seekG_dn ht hg h2
        rcases Int.lt_trichotomy m n with q | q | q
        · rw [b4 n q a1] at a3; cases a3
        · rw [q]
        · rw [a4 m q b1] at b3; cases b3
theorem Cr.fits_prog (c : Cr) (sec shift side : Int) (hs : side = 1 ∨ side = -1) (ht : okTime sec shift) : FitsIn c (fun i => c.dayFit shift (dayAt sec shift side i)) sec shift side := by
  intro i hi h0 h1
  have hz := dayAt_zero sec shift side i hs
  show c.dayFit shift (dayAt sec shift side i) = _
  generalize dayAt sec shift side i = a at h0 h1 hz ⊢
  show c.dayN ((clampT (a + 43200) + 60 * shift) / 86400) = _
  rw [show (clampT (a + 43200) + 60 * shift) / 86400 = (a + 60 * shift) / 86400 by unfold clampT; omega]
theorem Cr.seekO_of {c : Cr} {sec shift side : Int} {o : Option Nat} (h : Tide.firstUnder (c.hit sec shift side) 3001 = o) : c.seekO sec shift side = o.elim none (fun i => inTime (c.inDay (dayAt sec shift side i) sec side)) := by
  unfold Cr.seekO
  rw [h]
  clear h
  cases o <;> simp only [Option.elim]
theorem Cr.seekG_of {c : Cr} {fit : Nat → Bool} {sec shift side : Int} {o : Option Nat} (h : Tide.firstUnder (fun i => fit i && (c.inDay (dayAt sec shift side i) sec side).isSome) 3001 = o) : c.seekG fit sec shift side = o.elim none (fun i => inTime (c.inDay (dayAt sec shift side i) sec side)) := by
  unfold Cr.seekG
  rw [h]
  clear h
  cases o <;> simp only [Option.elim]
theorem Cr.seekO_is (c : Cr) (sec shift side : Int) : c.seekO sec shift side = c.seekG (fun i => c.dayFit shift (dayAt sec shift side i)) sec shift side := by
  obtain ⟨o, ho⟩ : ∃ o, Tide.firstUnder (c.hit sec shift side) 3001 = o := ⟨_, rfl⟩
  rw [Cr.seekO_of ho]
  refine (Cr.seekG_of ?_).symm
  rw [← ho]
  exact congrArg (fun p => Tide.firstUnder p 3001) (funext fun i => rfl)
theorem Cr.up_some {c : Cr} {sec shift n : Int} (ht : okTime sec shift) (h : c.seekO sec shift 1 = some n) : sec < n ∧ n ≤ 100000000000 ∧ c.onT shift n = true ∧ (∀ x, sec < x → x < n → c.onT shift x = false) ∧ n < dayStart sec shift + 3001 * 86400 :=
  by rw [Cr.seekO_is] at h; exact Cr.seekG_up ht (c.fits_prog sec shift 1 (.inl rfl) ht) h
theorem Cr.up_none {c : Cr} {sec shift : Int} (ht : okTime sec shift) (h : c.seekO sec shift 1 = none) : ∀ x, sec < x → x ≤ 100000000000 → x < dayStart sec shift + 3001 * 86400 → c.onT shift x = false :=
  by rw [Cr.seekO_is] at h; exact Cr.seekG_up_none ht (c.fits_prog sec shift 1 (.inl rfl) ht) h
theorem Cr.dn_some {c : Cr} {sec shift n : Int} (ht : okTime sec shift) (h : c.seekO sec shift (-1) = some n) : n ≤ sec ∧ -100000000000 ≤ n ∧ c.onT shift n = true ∧ (∀ x, n < x → x ≤ sec → c.onT shift x = false) ∧ dayStart sec shift - 3000 * 86400 ≤ n :=
  by rw [Cr.seekO_is] at h; exact Cr.seekG_dn ht (c.fits_prog sec shift (-1) (.inr rfl) ht) h
theorem Cr.dn_none {c : Cr} {sec shift : Int} (ht : okTime sec shift) (h : c.seekO sec shift (-1) = none) : ∀ x, x ≤ sec → -100000000000 ≤ x → dayStart sec shift - 3000 * 86400 ≤ x → c.onT shift x = false :=
  by rw [Cr.seekO_is] at h; exact Cr.seekG_dn_none ht (c.fits_prog sec shift (-1) (.inr rfl) ht) h
/-- it is the nearest that fits: found so -/
theorem Cr.up_is {c : Cr} {sec shift n : Int} (ht : okTime sec shift) (h1 : sec < n) (h2 : n ≤ 100000000000) (h3 : n < dayStart sec shift + 3001 * 86400) (h4 : c.onT shift n = true) (h5 : ∀ x, sec < x → x < n → c.onT shift x = false) : c.seekO sec shift 1 = some n := by
  cases h : c.seekO sec shift 1 with
  | none => rw [Cr.up_none ht h n h1 h2 h3] at h4; cases h4
  | some m =>
    obtain ⟨a1, a2, a3, a4, a5⟩ := Cr.up_some ht h
    rcases Int.lt_trichotomy m n with q | q | q
    · rw [h5 m a1 q] at a3; cases a3
    · rw [q]
    · rw [a4 n h1 q] at h4; cases h4
theorem Cr.dn_is {c : Cr} {sec shift n : Int} (ht : okTime sec shift) (h1 : n ≤ sec) (h2 : -100000000000 ≤ n) (h3 : dayStart sec shift - 3000 * 86400 ≤ n) (h4 : c.onT shift n = true) (h5 : ∀ x, n < x → x ≤ sec → c.onT shift x = false) : c.seekO sec shift (-1) = some n := by
  cases h : c.seekO sec shift (-1) with
  | none => rw [Cr.dn_none ht h n h1 h2 h3] at h4; cases h4
  | some m =>
    obtain ⟨a1, a2, a3, a4, a5⟩ := Cr.dn_some ht h
    rcases Int.lt_trichotomy m n with q | q | q
    · rw [a4 n q h1] at h4; cases h4
    · rw [q]
    · rw [h5 m q a1] at a3; cases a3
end Go.Proofs.Ytikjefghpnffkaa
