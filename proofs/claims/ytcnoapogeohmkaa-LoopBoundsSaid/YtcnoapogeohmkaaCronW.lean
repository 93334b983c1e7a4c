/- The contract of cron.within: the first minute of a day that fits. -/
import Derived.Test.YtcnoapogeohmkaaCronD
import Derived.Test.YtcnoapogeohmkaaCivD
import Derived.Deep.DeepCutAuto
import Derived.Deep.CutBlock
set_option linter.unusedVariables false
set_option linter.unusedSimpArgs false
namespace Tide
/-- the first below n that fits -/
def firstUnder (p : Nat → Bool) : Nat → Option Nat
  | 0 => none
  | k + 1 => match firstUnder p k with | some i => some i | none => if p k then some k else none
theorem under_none {p : Nat → Bool} : ∀ {n : Nat}, firstUnder p n = none → ∀ k, k < n → p k = false
  | 0, _, k, hk => by omega
  | n + 1, h, k, hk => by
    unfold firstUnder at h
    cases hn : firstUnder p n with
    | some i => rw [hn] at h; cases h
    | none =>
      rw [hn] at h
      simp only at h
      rcases Nat.lt_succ_iff_lt_or_eq.1 hk with c | c
      · exact under_none hn k c
      · subst c
        cases hp : p k
        · rfl
        · rw [hp] at h; cases h
theorem under_some {p : Nat → Bool} : ∀ {n i : Nat}, firstUnder p n = some i → i < n ∧ p i = true ∧ ∀ k, k < i → p k = false
  | 0, i, h => by cases h
  | n + 1, i, h => by
    unfold firstUnder at h
    cases hn : firstUnder p n with
    | some i' =>
      rw [hn] at h; cases h
      obtain ⟨h1, h2, h3⟩ := under_some hn
      exact ⟨by omega, h2, h3⟩
    | none =>
      rw [hn] at h
      simp only at h
      cases hp : p n
      · rw [hp] at h; cases h
      · rw [hp] at h; cases h
        exact ⟨by omega, hp, fun k hk => under_none hn k hk⟩
theorem under_is {p : Nat → Bool} {n i : Nat} (hi : i < n) (hp : p i = true) (h : ∀ k, k < i → p k = false) : firstUnder p n = some i := by
  cases hn : firstUnder p n with
  | none => rw [under_none hn i hi] at hp; cases hp
  | some j =>
    obtain ⟨_, h2, h3⟩ := under_some hn
    rcases Nat.lt_trichotomy i j with c | c | c
    · rw [h3 i c] at hp; cases hp
    · rw [c]
    · rw [h j c] at h2; cases h2
theorem under_all {p : Nat → Bool} {n : Nat} (h : ∀ k, k < n → p k = false) : firstUnder p n = none := by
  cases hn : firstUnder p n with
  | none => rfl
  | some j =>
    obtain ⟨h1, h2, _⟩ := under_some hn
    rw [h j h1] at h2; cases h2
/-- the k-th minute of a day, from one side -/
def minOf (side : Int) (k : Nat) : Int := if side < 0 then 1439 - k else k
end Tide
namespace Go.Proofs.Ytcnoapogeohmkaa
open Go.RowKit
set_option linter.unusedVariables false
/-- does the k-th minute fit? -/
def Cr.minB (c : Cr) (at0 sec side : Int) (k : Nat) : Bool := hasB c.h (Tide.minOf side k / 60) && hasB c.mi (Tide.minOf side k % 60) && (if side < 0 then decide (at0 + 60 * Tide.minOf side k ≤ sec) else decide (sec < at0 + 60 * Tide.minOf side k))
def Cr.inDay (c : Cr) (at0 sec side : Int) : Option Int := (Tide.firstUnder (c.minB at0 sec side) 1440).map fun k => at0 + 60 * Tide.minOf side k
def foundV (o : Option Int) : Value := match o with | none => .tuple #[.int .i64 0, .bool false] | some n => .tuple #[.int .i64 n, .bool true]
set_option maxRecDepth 100000 in
set_option maxHeartbeats 3200000 in
theorem cronWithinUp (c : Cr) (hf : c.fits) (at0 sec : Int) (w : World) (a0 : -1000000000000 ≤ at0) (a1 : at0 ≤ 1000000000000) :
    Calls Try.prog 86 #[.agg c.cells, .int .i64 at0, .int .i64 sec, .int .i64 1] w fun e w' => e = .returned (foundV (c.inDay at0 sec 1)) ∧ Below w.heap.size w w' := by
  obtain ⟨ci, ch, cd, cm, cw, ad, aw⟩ := c
  have F0 : Word ci := hf.1; have F1 : Word ch := hf.2.1
  clear hf
  have HB := Lib.hid ((Below.refl w.heap.size w).alloc (Nat.le_refl _) (.cells (Cr.cells ⟨ci, ch, cd, cm, cw, ad, aw⟩) 61))
  have HX := Lib.hid (Tide.At.made w 61 (Cr.cells ⟨ci, ch, cd, cm, cw, ad, aw⟩))
  have x0 : (w.alloc (.cells (Cr.cells ⟨ci, ch, cd, cm, cw, ad, aw⟩) 61)).cell? ⟨w.heap.size, 0, none⟩ = some (.int .u64 (ci : Int)) := HX.out.here (i := 0) rfl
  have x1 : (w.alloc (.cells (Cr.cells ⟨ci, ch, cd, cm, cw, ad, aw⟩) 61)).cell? ⟨w.heap.size, 1, none⟩ = some (.int .u64 (ch : Int)) := HX.out.here (i := 1) rfl
  go_enter Try.func86, Try.ntmps86
  go_wp2_with fail
  generalize w.alloc (.cells (Cr.cells ⟨ci, ch, cd, cm, cw, ad, aw⟩) 61) = W at HB x0 x1 ⊢
  go_loop [13] (fun i => ∃ k : Nat, k ≤ 1440 ∧ i = .int .i64 k ∧ Hid (∀ q, q < k → Cr.minB ⟨ci, ch, cd, cm, cw, ad, aw⟩ at0 sec 1 q = false)) (fun i => 1440 - (intOf i).toNat)
  case atStart => exact ⟨0, by omega, rfl, Lib.hid (fun q hq => by omega)⟩
  case round =>
    obtain ⟨k, hk, rfl, HN⟩ := hrel
    by_cases hlt : k < 1440
    · have i0 : (0 : Int) ≤ (k : Int) := by omega
      have i1 : (k : Int) < 1440 := by omega
      have hw0 : IntKind.i64.wrap (1439 - (k : Int)) = 1439 - (k : Int) := IntWalk.i64_in _ (by omega)
      go_upto_region 7 with fail
      obtain ⟨m, hm⟩ : ∃ m, Hid ((k : Int) = m) := ⟨_, Lib.hid rfl⟩
      rw [hm.out]
      have m0 : 0 ≤ m := by have := hm.out; omega
      have m1 : m < 1440 := by have := hm.out; omega
      have HMin := Lib.hid (show Cr.minB ⟨ci, ch, cd, cm, cw, ad, aw⟩ at0 sec 1 k = (hasB ch (m / 60) && hasB ci (m % 60) && decide (sec < at0 + 60 * m)) by unfold Cr.minB Tide.minOf; rw [← hm.out]; rfl)
      have HYes := Lib.hid (fun (h : Cr.minB ⟨ci, ch, cd, cm, cw, ad, aw⟩ at0 sec 1 k = true) => (show Cr.inDay ⟨ci, ch, cd, cm, cw, ad, aw⟩ at0 sec 1 = some (at0 + 60 * m) by unfold Cr.inDay; rw [Tide.under_is hlt h HN.out]; show some (at0 + 60 * Tide.minOf 1 k) = _; unfold Tide.minOf; rw [← hm.out]; rfl))
      have HNo := Lib.hid (fun (h : Cr.minB ⟨ci, ch, cd, cm, cw, ad, aw⟩ at0 sec 1 k = false) => (show ∀ q, q < k + 1 → Cr.minB ⟨ci, ch, cd, cm, cw, ad, aw⟩ at0 sec 1 q = false from fun q hq => by
        rcases Nat.lt_succ_iff_lt_or_eq.1 hq with c | c
        · exact HN.out q c
        · rw [c]; exact h))
      have hw1 : IntKind.i64.wrap (60 * m) = 60 * m := IntWalk.i64_in _ (by omega)
      have hw2 : IntKind.i64.wrap (at0 + 60 * m) = at0 + 60 * m := IntWalk.i64_in _ (by omega)
      clear hw0
      go_wp2_with fail
      refine (cronHas ch (m / 60) _ F1).mono ?_
      rintro e w' ⟨rfl, rfl⟩
      cases h1 : hasB ch (m / 60)
      · have HF := Lib.hid (HNo.out (by rw [HMin.out, h1]; rfl))
        go_wp2_with fail
        go_round
        case rel => exact ⟨k + 1, by omega, by first | go_num | (rw [← hm.out]; go_num), HF⟩
        case measure => have := hm.out; simp [intOf]; omega
      · go_wp2_with fail
        refine (cronHas ci (m % 60) _ F0).mono ?_
        rintro e w' ⟨rfl, rfl⟩
        cases h2 : hasB ci (m % 60)
        · have HF := Lib.hid (HNo.out (by rw [HMin.out, h1, h2]; rfl))
          go_wp2_with fail
          go_round
          case rel => exact ⟨k + 1, by omega, by first | go_num | (rw [← hm.out]; go_num), HF⟩
          case measure => have := hm.out; simp [intOf]; omega
        · by_cases h3 : sec < at0 + 60 * m
          · have HF := Lib.hid (HYes.out (by rw [HMin.out, h1, h2, decide_eq_true h3]; rfl))
            go_wp2_with fail
            go_ret2
            exact ⟨by rw [HF.out] <;> rfl, HB.out⟩
          · have h4 : at0 + 60 * m ≤ sec := by omega
            have HF := Lib.hid (HNo.out (by rw [HMin.out, h1, h2, decide_eq_false h3]; rfl))
            clear h3
            go_wp2_with fail
            go_round
            case rel => exact ⟨k + 1, by omega, by first | go_num | (rw [← hm.out]; go_num), HF⟩
            case measure => have := hm.out; simp [intOf]; omega
    · have hke : k = 1440 := by omega
      subst hke
      have HF := Lib.hid (show Cr.inDay ⟨ci, ch, cd, cm, cw, ad, aw⟩ at0 sec 1 = none by unfold Cr.inDay; rw [Tide.under_all HN.out]; rfl)
      go_wp2_with fail
      go_ret2
      exact ⟨by rw [HF.out] <;> rfl, HB.out⟩
set_option maxRecDepth 100000 in
set_option maxHeartbeats 3200000 in
theorem cronWithinDn (c : Cr) (hf : c.fits) (at0 sec : Int) (w : World) (a0 : -1000000000000 ≤ at0) (a1 : at0 ≤ 1000000000000) :
    Calls Try.prog 86 #[.agg c.cells, .int .i64 at0, .int .i64 sec, .int .i64 (-1)] w fun e w' => e = .returned (foundV (c.inDay at0 sec (-1))) ∧ Below w.heap.size w w' := by
  obtain ⟨ci, ch, cd, cm, cw, ad, aw⟩ := c
  have F0 : Word ci := hf.1; have F1 : Word ch := hf.2.1
  clear hf
  have HB := Lib.hid ((Below.refl w.heap.size w).alloc (Nat.le_refl _) (.cells (Cr.cells ⟨ci, ch, cd, cm, cw, ad, aw⟩) 61))
  have HX := Lib.hid (Tide.At.made w 61 (Cr.cells ⟨ci, ch, cd, cm, cw, ad, aw⟩))
  have x0 : (w.alloc (.cells (Cr.cells ⟨ci, ch, cd, cm, cw, ad, aw⟩) 61)).cell? ⟨w.heap.size, 0, none⟩ = some (.int .u64 (ci : Int)) := HX.out.here (i := 0) rfl
  have x1 : (w.alloc (.cells (Cr.cells ⟨ci, ch, cd, cm, cw, ad, aw⟩) 61)).cell? ⟨w.heap.size, 1, none⟩ = some (.int .u64 (ch : Int)) := HX.out.here (i := 1) rfl
  go_enter Try.func86, Try.ntmps86
  go_wp2_with fail
  generalize w.alloc (.cells (Cr.cells ⟨ci, ch, cd, cm, cw, ad, aw⟩) 61) = W at HB x0 x1 ⊢
  go_loop [13] (fun i => ∃ k : Nat, k ≤ 1440 ∧ i = .int .i64 k ∧ Hid (∀ q, q < k → Cr.minB ⟨ci, ch, cd, cm, cw, ad, aw⟩ at0 sec (-1) q = false)) (fun i => 1440 - (intOf i).toNat)
  case atStart => exact ⟨0, by omega, rfl, Lib.hid (fun q hq => by omega)⟩
  case round =>
    obtain ⟨k, hk, rfl, HN⟩ := hrel
    by_cases hlt : k < 1440
    · have i0 : (0 : Int) ≤ (k : Int) := by omega
      have i1 : (k : Int) < 1440 := by omega
      have hw0 : IntKind.i64.wrap (1439 - (k : Int)) = 1439 - (k : Int) := IntWalk.i64_in _ (by omega)
      go_upto_region 7 with fail
      obtain ⟨m, hm⟩ : ∃ m, Hid ((1439 - (k : Int)) = m) := ⟨_, Lib.hid rfl⟩
      rw [hm.out]
      have m0 : 0 ≤ m := by have := hm.out; omega
      have m1 : m < 1440 := by have := hm.out; omega
      have HMin := Lib.hid (show Cr.minB ⟨ci, ch, cd, cm, cw, ad, aw⟩ at0 sec (-1) k = (hasB ch (m / 60) && hasB ci (m % 60) && decide (at0 + 60 * m ≤ sec)) by unfold Cr.minB Tide.minOf; rw [← hm.out]; rfl)
      have HYes := Lib.hid (fun (h : Cr.minB ⟨ci, ch, cd, cm, cw, ad, aw⟩ at0 sec (-1) k = true) => (show Cr.inDay ⟨ci, ch, cd, cm, cw, ad, aw⟩ at0 sec (-1) = some (at0 + 60 * m) by unfold Cr.inDay; rw [Tide.under_is hlt h HN.out]; show some (at0 + 60 * Tide.minOf (-1) k) = _; unfold Tide.minOf; rw [← hm.out]; rfl))
      have HNo := Lib.hid (fun (h : Cr.minB ⟨ci, ch, cd, cm, cw, ad, aw⟩ at0 sec (-1) k = false) => (show ∀ q, q < k + 1 → Cr.minB ⟨ci, ch, cd, cm, cw, ad, aw⟩ at0 sec (-1) q = false from fun q hq => by
        rcases Nat.lt_succ_iff_lt_or_eq.1 hq with c | c
        · exact HN.out q c
        · rw [c]; exact h))
      have hw1 : IntKind.i64.wrap (60 * m) = 60 * m := IntWalk.i64_in _ (by omega)
      have hw2 : IntKind.i64.wrap (at0 + 60 * m) = at0 + 60 * m := IntWalk.i64_in _ (by omega)
      clear hw0
      go_wp2_with fail
      refine (cronHas ch (m / 60) _ F1).mono ?_
      rintro e w' ⟨rfl, rfl⟩
      cases h1 : hasB ch (m / 60)
      · have HF := Lib.hid (HNo.out (by rw [HMin.out, h1]; rfl))
        go_wp2_with fail
        go_round
        case rel => exact ⟨k + 1, by omega, by first | go_num | (rw [← hm.out]; go_num), HF⟩
        case measure => have := hm.out; simp [intOf]; omega
      · go_wp2_with fail
        refine (cronHas ci (m % 60) _ F0).mono ?_
        rintro e w' ⟨rfl, rfl⟩
        cases h2 : hasB ci (m % 60)
        · have HF := Lib.hid (HNo.out (by rw [HMin.out, h1, h2]; rfl))
          go_wp2_with fail
          go_round
          case rel => exact ⟨k + 1, by omega, by first | go_num | (rw [← hm.out]; go_num), HF⟩
          case measure => have := hm.out; simp [intOf]; omega
        · by_cases h3 : at0 + 60 * m ≤ sec
          · have HF := Lib.hid (HYes.out (by rw [HMin.out, h1, h2, decide_eq_true h3]; rfl))
            go_wp2_with fail
            go_ret2
            exact ⟨by rw [HF.out] <;> rfl, HB.out⟩
          · have h4 : sec < at0 + 60 * m := by omega
            have HF := Lib.hid (HNo.out (by rw [HMin.out, h1, h2, decide_eq_false h3]; rfl))
            clear h3
            go_wp2_with fail
            go_round
            case rel => exact ⟨k + 1, by omega, by first | go_num | (rw [← hm.out]; go_num), HF⟩
            case measure => have := hm.out; simp [intOf]; omega
    · have hke : k = 1440 := by omega
      subst hke
      have HF := Lib.hid (show Cr.inDay ⟨ci, ch, cd, cm, cw, ad, aw⟩ at0 sec (-1) = none by unfold Cr.inDay; rw [Tide.under_all HN.out]; rfl)
      go_wp2_with fail
      go_ret2
      exact ⟨by rw [HF.out] <;> rfl, HB.out⟩
end Go.Proofs.Ytcnoapogeohmkaa
