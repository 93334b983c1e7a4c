/- The contracts of the reference's crons: Has, sets, Match. -/
import Derived.Test.YthelnkoohbnjpaaDoorZCron
import Derived.Test.YthelnkoohbnjpaaDoorInD
import Derived.Deep.DeepCutAuto
import Derived.Deep.CutBlock
import Derived.RegionTactic
import Derived.Deep.RegionHeld3
set_option linter.unusedVariables false
set_option linter.unusedSimpArgs false
namespace Go.Proofs.YthelnkoohbnjpaaDoor
open Go.RowKit
set_option linter.unusedVariables false
theorem shift_rem (s k : Nat) : (((s : Int) / 2 ^ k) % 2 == 1) = s.testBit k := by
  have e : ((s : Int) / 2 ^ k) = ((s / 2 ^ k : Nat) : Int) := by simp
  rw [e, Nat.testBit_eq_decide_div_mod_eq, Bool.eq_iff_iff]; simp; omega
theorem shift_trem (s k : Nat) : ((((s : Int) / 2 ^ k)).tmod 2 == 1) = s.testBit k := by
  rw [Int.tmod_eq_emod_of_nonneg (Int.ediv_nonneg (by omega) (Int.le_of_lt (Int.pow_pos (by omega))))]
  exact shift_rem s k
set_option maxHeartbeats 400000 in
theorem refHas (s : Nat) (n : Int) (w : World) (hs : Word s) : Calls Tryd.prog 33 #[.int .u64 (s : Int), .int .i64 n] w fun e w' => e = .returned (.bool (hasB s n)) ∧ w = w' := by
  by_cases h0 : 0 ≤ n ∧ n ≤ 63
  · obtain ⟨h0, h1⟩ := h0
    obtain ⟨k, rfl⟩ := Int.eq_ofNat_of_zero_le h0
    have k1 : Hid (hasB s (k : Int) = s.testBit k) := by show _ = _; unfold hasB; simp; omega
    have hb := Lib.hid (shift_rem s k); have hb2 := Lib.hid (shift_trem s k)
    have s0 : (0 : Int) ≤ (s : Int) := by omega
    have s1 : (0 : Int) ≤ (s : Int) / 2 ^ k := Int.ediv_nonneg (by omega) (Int.le_of_lt (Int.pow_pos (by omega)))
    clear hs
    go_enter Tryd.func33, Tryd.ntmps33
    go_wp2_with fail
    refine (refIn_yes (k : Int) 0 63 _ h0 h1).mono ?_
    rintro e w' ⟨rfl, rfl⟩
    go_wp2_with fail
    go_ret
    refine ⟨?_, rfl⟩
    rw [k1.out]
    first | rw [← hb.out] | rw [← hb2.out]
    all_goals first | rfl | (simp; done)
  · have k : hasB s n = false := by unfold hasB; simp; omega
    have HQ := Lib.hid (show n < 0 ∨ 63 < n by omega)
    rw [k]
    clear hs h0
    go_enter Tryd.func33, Tryd.ntmps33
    go_wp2_with fail
    refine (refIn_no n 0 63 _ HQ.out).mono ?_
    rintro e w' ⟨rfl, rfl⟩
    go_wp2_with fail
    go_ret
    exact ⟨rfl, rfl⟩
theorem refHas' (s : Nat) (n : Int) (w : World) (hs : Word s) : Calls Tryd.prog 33 #[.int .u64 (s : Int), .int .i64 n] w fun e w' => e = .returned (.bool (hasB s n)) ∧ w' = w :=
  (refHas s n w hs).mono fun _ _ ⟨a, b⟩ => ⟨a, b.symm⟩
theorem made_at {w : World} {g : Nat} {t : TypeId} {cs : Array Value} (hg : g = w.heap.size) : Tide.At (w.alloc (.cells cs t)) g t cs := by subst hg; exact Tide.At.made w t cs
/-- the lists of a cron's sets, of the numbers that they may have, of what may be any -/
def SetsPost (c : Cr) (w0 : World) (e : Ending) (w' : World) : Prop := ∃ a b d, e = .returned (.tuple #[.slice (some ⟨a, 0, none⟩) 5 5, .slice (some ⟨b, 0, none⟩) 5 5, .slice (some ⟨d, 0, none⟩) 5 5]) ∧
  Tide.At w' a 22 #[.int .u64 (c.mi : Int), .int .u64 (c.h : Int), .int .u64 (c.d : Int), .int .u64 (c.mo : Int), .int .u64 (c.wk : Int)] ∧
  Tide.At w' b 71 #[.int .i64 0, .int .i64 59, .int .i64 0, .int .i64 23, .int .i64 1, .int .i64 31, .int .i64 1, .int .i64 12, .int .i64 0, .int .i64 6] ∧
  Tide.At w' d 4 #[.bool false, .bool false, .bool c.ad, .bool false, .bool c.aw] ∧ Below w0.heap.size w0 w'
set_option maxRecDepth 100000 in
set_option maxHeartbeats 3200000 in
theorem refSets (c : Cr) (w : World) : Calls Tryd.prog 30 #[.agg c.cells] w (SetsPost c w) := by
  obtain ⟨ci, ch, cd, cm, cw, ad, aw⟩ := c
  have HB := Lib.hid ((Below.refl w.heap.size w).alloc (Nat.le_refl _) (.cells #[.int .u64 (ci : Int), .int .u64 (ch : Int), .int .u64 (cd : Int), .int .u64 (cm : Int), .int .u64 (cw : Int), .bool ad, .bool aw] 24))
  have hx := Tide.At.made w 24 #[.int .u64 (ci : Int), .int .u64 (ch : Int), .int .u64 (cd : Int), .int .u64 (cm : Int), .int .u64 (cw : Int), .bool ad, .bool aw]
  unfold Cr.cells
  go_enter Tryd.func30, Tryd.ntmps30
  go_upto_region 1 with fail
  have x0 := hx.here (i := 0) rfl; have x1 := hx.here (i := 1) rfl; have x2 := hx.here (i := 2) rfl; have x3 := hx.here (i := 3) rfl; have x4 := hx.here (i := 4) rfl; have x5 := hx.here (i := 5) rfl; have x6 := hx.here (i := 6) rfl
  have HX := Lib.hid hx
  clear hx
  go_region_held3 (fun w' => w'.cell? ⟨w.heap.size, 0, none⟩ = some (.int .u64 (ci : Int)) ∧ w'.cell? ⟨w.heap.size, 1, none⟩ = some (.int .u64 (ch : Int)) ∧ w'.cell? ⟨w.heap.size, 2, none⟩ = some (.int .u64 (cd : Int)) ∧ w'.cell? ⟨w.heap.size, 3, none⟩ = some (.int .u64 (cm : Int)) ∧ w'.cell? ⟨w.heap.size, 4, none⟩ = some (.int .u64 (cw : Int)) ∧ w'.cell? ⟨w.heap.size, 5, none⟩ = some (.bool ad) ∧ w'.cell? ⟨w.heap.size, 6, none⟩ = some (.bool aw)) (first | exact ⟨x0, x1, x2, x3, x4, x5, x6⟩ | go_keep) (fail)
  all_goals
    go_wp2_with fail
    go_ret3
    refine ⟨_, _, _, rfl, ?_, ?_, ?_, ?_⟩
    iterate 3 first
      | exact Tide.At.drew (Tide.At.alloc (Tide.At.alloc (made_at rfl) _) _)
      | exact Tide.At.drew (Tide.At.alloc (made_at rfl) _)
      | exact Tide.At.drew (made_at rfl)
      | exact Tide.At.drew (Tide.At.alloc (Tide.At.alloc (made_at (by simp)) _) _)
      | exact Tide.At.drew (Tide.At.alloc (made_at (by simp)) _)
      | exact Tide.At.drew (made_at (by simp))
    exact Below.drew (Below.alloc (Below.alloc (Below.alloc HB.out HB.out.size _) (by simp; omega) _) (by simp; omega) _)
theorem refIn' (n lo hi : Int) (w : World) : Calls Tryd.prog 32 #[.int .i64 n, .int .i64 lo, .int .i64 hi] w fun e w' => e = .returned (.bool (inB n lo hi)) ∧ w' = w :=
  (refIn n lo hi w).mono fun _ _ ⟨a, b⟩ => ⟨a, b.symm⟩
end Go.Proofs.YthelnkoohbnjpaaDoor
namespace Tide
def someU (s : Nat) : Nat → Bool
  | 0 => false
  | k + 1 => someU s k || s.testBit k
def allU (s lo hi : Nat) : Nat → Bool
  | 0 => true
  | k + 1 => allU s lo hi k && (s.testBit k || !(decide (lo ≤ k) && decide (k ≤ hi)))
theorem someU_iff (s k : Nat) : someU s k = true ↔ ∃ q, q < k ∧ s.testBit q = true := by
  induction k with
  | zero => exact Iff.intro (fun h => by cases h) (fun ⟨q, h, _⟩ => absurd h (Nat.not_lt_zero q))
  | succ k ih =>
    unfold someU
    rw [Bool.or_eq_true, ih]
    constructor
    · rintro (⟨q, h1, h2⟩ | h)
      · exact ⟨q, by omega, h2⟩
      · exact ⟨k, by omega, h⟩
    · rintro ⟨q, h1, h2⟩
      rcases Nat.lt_succ_iff_lt_or_eq.1 h1 with c | c
      · exact .inl ⟨q, c, h2⟩
      · exact .inr (c ▸ h2)
theorem allU_iff (s lo hi k : Nat) : allU s lo hi k = true ↔ ∀ q, q < k → lo ≤ q → q ≤ hi → s.testBit q = true := by
  induction k with
  | zero => exact ⟨fun _ q h => by omega, fun _ => rfl⟩
  | succ k ih =>
    unfold allU
    rw [Bool.and_eq_true, ih]
    constructor
    · rintro ⟨h1, h2⟩ q hq a b
      rcases Nat.lt_succ_iff_lt_or_eq.1 hq with c | c
      · exact h1 q c a b
      · subst c; simpa [a, b] using h2
    · intro h
      refine ⟨fun q hq => h q (by omega), ?_⟩
      by_cases hk : lo ≤ k ∧ k ≤ hi
      · simp [h k (by omega) hk.1 hk.2]
      · by_cases h1 : lo ≤ k
        · have h2 : ¬ k ≤ hi := fun c => hk ⟨h1, c⟩
          simp [h2]
        · simp [h1]
theorem bit_lt {s n : Nat} (hs : s < 18446744073709551616) (h : s.testBit n = true) : n < 64 := by
  rcases Nat.lt_or_ge n 64 with c | c
  · exact c
  · rw [Nat.testBit_lt_two_pow (Nat.lt_of_lt_of_le hs (by
      show 2 ^ 64 ≤ 2 ^ n
      exact Nat.pow_le_pow_right (by omega) c))] at h
    cases h
theorem field_bad {s : Nat} (hs : s < 18446744073709551616) {lo hi n : Nat} (h : lo ≤ hi) (h' : hi ≤ 62) {any : Bool} (hb : s.testBit n = true) (hn : (decide (lo ≤ n) && decide (n ≤ hi)) = false) : okField (s : Int) lo hi any = false := by
  rw [← Bool.not_eq_true, okField_iff s hs lo hi h h' any]
  rintro ⟨_, h2, _⟩
  have := h2 n hb
  simp [this.1, this.2] at hn
theorem field_is {s : Nat} (hs : s < 18446744073709551616) {lo hi : Nat} (h : lo ≤ hi) (h' : hi ≤ 62) {any : Bool} (hno : ∀ q, q < 64 → s.testBit q = true → (decide (lo ≤ q) && decide (q ≤ hi)) = true) : okField (s : Int) lo hi any = (someU s 64 && (!any || allU s lo hi 64)) := by
  rw [Bool.eq_iff_iff, okField_iff s hs lo hi h h' any, Bool.and_eq_true, Bool.or_eq_true, someU_iff, allU_iff]
  have hz : s ≠ 0 ↔ ∃ q, q < 64 ∧ s.testBit q = true := by
    constructor
    · intro h0
      obtain ⟨i, hi⟩ := Nat.exists_testBit_of_ne_zero h0
      exact ⟨i, bit_lt hs hi, hi⟩
    · rintro ⟨q, _, h2⟩ rfl
      simp at h2
  constructor
  · rintro ⟨h1, h2, h3⟩
    refine ⟨hz.1 h1, ?_⟩
    cases any with
    | false => exact .inl rfl
    | true => exact .inr fun q _ a b => h3 rfl q a b
  · rintro ⟨h1, h2⟩
    refine ⟨hz.2 h1, fun n hn => by simpa using hno n (bit_lt hs hn) hn, fun ha n a b => ?_⟩
    rcases h2 with h2 | h2
    · rw [ha] at h2; cases h2
    · exact h2 n (by omega) a b
end Tide
namespace Go.Proofs.YthelnkoohbnjpaaDoor
open Go.RowKit
theorem hasB_nat (s k : Nat) (hk : k < 64) : hasB s (k : Int) = s.testBit k := by unfold hasB; simp; omega
theorem inB_nat (k lo hi : Nat) : inB (k : Int) lo hi = (decide (lo ≤ k) && decide (k ≤ hi)) := by
  unfold inB
  have h1 : decide ((lo : Int) ≤ (k : Int)) = decide (lo ≤ k) := decide_eq_decide.2 (by omega)
  have h2 : decide ((k : Int) ≤ (hi : Int)) = decide (k ≤ hi) := decide_eq_decide.2 (by omega)
  rw [h1, h2]
theorem sets_row {c : Cr} (hf : c.fits) {w : World} {a b d : Nat} (ha : Tide.At w a 22 #[.int .u64 (c.mi : Int), .int .u64 (c.h : Int), .int .u64 (c.d : Int), .int .u64 (c.mo : Int), .int .u64 (c.wk : Int)])
    (hb : Tide.At w b 71 #[.int .i64 0, .int .i64 59, .int .i64 0, .int .i64 23, .int .i64 1, .int .i64 31, .int .i64 1, .int .i64 12, .int .i64 0, .int .i64 6])
    (hd : Tide.At w d 4 #[.bool false, .bool false, .bool c.ad, .bool false, .bool c.aw]) (j : Nat) (hj : j < 5) :
    ∃ (s lo hi : Nat) (any : Bool), lo ≤ hi ∧ hi ≤ 60 ∧ Word s ∧ c.okAt j = Tide.okField s lo hi any ∧
      w.cell? ⟨a, j, none⟩ = some (.int .u64 (s : Int)) ∧ w.cell? ⟨b, j * 2, none⟩ = some (.int .i64 lo) ∧ w.cell? ⟨b, j * 2 + 1, none⟩ = some (.int .i64 hi) ∧ w.cell? ⟨d, j, none⟩ = some (.bool any) := by
  obtain ⟨f0, f1, f2, f3, f4⟩ := hf
  match j, hj with
  | 0, _ => exact ⟨c.mi, 0, 59, false, by omega, by omega, f0, rfl, ha.here rfl, hb.here rfl, hb.here rfl, hd.here rfl⟩
  | 1, _ => exact ⟨c.h, 0, 23, false, by omega, by omega, f1, rfl, ha.here rfl, hb.here rfl, hb.here rfl, hd.here rfl⟩
  | 2, _ => exact ⟨c.d, 1, 31, c.ad, by omega, by omega, f2, rfl, ha.here rfl, hb.here rfl, hb.here rfl, hd.here rfl⟩
  | 3, _ => exact ⟨c.mo, 1, 12, false, by omega, by omega, f3, rfl, ha.here rfl, hb.here rfl, hb.here rfl, hd.here rfl⟩
  | 4, _ => exact ⟨c.wk, 0, 6, c.aw, by omega, by omega, f4, rfl, ha.here rfl, hb.here rfl, hb.here rfl, hd.here rfl⟩
end Go.Proofs.YthelnkoohbnjpaaDoor
