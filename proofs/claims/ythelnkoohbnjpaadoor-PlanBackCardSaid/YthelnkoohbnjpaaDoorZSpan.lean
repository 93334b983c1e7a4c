/- The contract of cron.within: the first minute of a day that fits. The contract of cron.seek. The contracts of cron.Next and cron.Last. The contracts of span.Check and span.In. -/
import Derived.Test.YthelnkoohbnjpaaDoorZCron
import Derived.Test.YthelnkoohbnjpaaDoorZCiv
import Derived.Deep.DeepCutAuto
import Derived.Deep.CutBlock

set_option linter.unusedVariables false
set_option linter.unusedSimpArgs false
namespace Tide
/-- the first below n that fits -/
def firstUnder (p : Nat → Bool) : Nat → Option Nat
  | 0 => none
  | k + 1 => match firstUnder p k with | some i => some i | none => if p k then some k else none
theorem under_none {p : Nat → Bool} : ∀ {n : Nat}, firstUnder p n = none → ∀ k, k < n → p k = false
  | 0, _, k, hk => by omega
  | n + 1, h, k, hk => by
    unfold firstUnder at h
    cases hn : firstUnder p n with
    | some i => rw [hn] at h; cases h
    | none =>
      rw [hn] at h
      simp only at h
      rcases Nat.lt_succ_iff_lt_or_eq.1 hk with c | c
      · exact under_none hn k c
      · subst c
        cases hp : p k
        · rfl
        · rw [hp] at h; cases h
theorem under_some {p : Nat → Bool} : ∀ {n i : Nat}, firstUnder p n = some i → i < n ∧ p i = true ∧ ∀ k, k < i → p k = false
  | 0, i, h => by cases h
  | n + 1, i, h => by
    unfold firstUnder at h
    cases hn : firstUnder p n with
    | some i' =>
      rw [hn] at h; cases h
      obtain ⟨h1, h2, h3⟩ := under_some hn
      exact ⟨by omega, h2, h3⟩
    | none =>
      rw [hn] at h
      simp only at h
      cases hp : p n
      · rw [hp] at h; cases h
      · rw [hp] at h; cases h
        exact ⟨by omega, hp, fun k hk => under_none hn k hk⟩
theorem under_is {p : Nat → Bool} {n i : Nat} (hi : i < n) (hp : p i = true) (h : ∀ k, k < i → p k = false) : firstUnder p n = some i := by
  cases hn : firstUnder p n with
  | none => rw [under_none hn i hi] at hp; cases hp
  | some j =>
    obtain ⟨_, h2, h3⟩ := under_some hn
    rcases Nat.lt_trichotomy i j with c | c | c
    · rw [h3 i c] at hp; cases hp
    · rw [c]
    · rw [h j c] at h2; cases h2
theorem under_all {p : Nat → Bool} {n : Nat} (h : ∀ k, k < n → p k = false) : firstUnder p n = none := by
  cases hn : firstUnder p n with
  | none => rfl
  | some j =>
    obtain ⟨h1, h2, _⟩ := under_some hn
    rw [h j h1] at h2; cases h2
/-- the k-th minute of a day, from one side -/
def minOf (side : Int) (k : Nat) : Int := if side < 0 then 1439 - k else k
end Tide
namespace Go.Proofs.YthelnkoohbnjpaaDoor
open Go.RowKit
set_option linter.unusedVariables false
/-- does the k-th minute fit? -/
def Cr.minB (c : Cr) (at0 sec side : Int) (k : Nat) : Bool := hasB c.h (Tide.minOf side k / 60) && hasB c.mi (Tide.minOf side k % 60) && (if side < 0 then decide (at0 + 60 * Tide.minOf side k ≤ sec) else decide (sec < at0 + 60 * Tide.minOf side k))
def Cr.inDay (c : Cr) (at0 sec side : Int) : Option Int := (Tide.firstUnder (c.minB at0 sec side) 1440).map fun k => at0 + 60 * Tide.minOf side k
def foundV (o : Option Int) : Value := match o with | none => .tuple #[.int .i64 0, .bool false] | some n => .tuple #[.int .i64 n, .bool true]
end Go.Proofs.YthelnkoohbnjpaaDoor


namespace Go.Proofs.YthelnkoohbnjpaaDoor
open Go.RowKit
set_option linter.unusedVariables false
def clampT (n : Int) : Int := min (max n (-100000000000)) 100000000000
/-- does the day that begins at a time fit? -/
def Cr.dayFit (c : Cr) (shift at0 : Int) : Bool := c.day (Tide.moOf ((clampT (at0 + 43200) + 60 * shift) / 86400)) (Tide.dyOf ((clampT (at0 + 43200) + 60 * shift) / 86400)) (((clampT (at0 + 43200) + 60 * shift) / 86400 + 4) % 7)
/-- the beginning of the day of a time -/
def dayStart (sec shift : Int) : Int := sec - (sec + 60 * shift) % 86400
def dayAt (sec shift side : Int) (i : Nat) : Int := dayStart sec shift + side * i * 86400
def Cr.hit (c : Cr) (sec shift side : Int) (i : Nat) : Bool := c.dayFit shift (dayAt sec shift side i) && (c.inDay (dayAt sec shift side i) sec side).isSome
def inTime (o : Option Int) : Option Int := match o with | none => none | some n => if n < -100000000000 ∨ 100000000000 < n then none else some n
def Cr.seekO (c : Cr) (sec shift side : Int) : Option Int := match Tide.firstUnder (c.hit sec shift side) 3001 with | none => none | some i => inTime (c.inDay (dayAt sec shift side i) sec side)
def Cr.seekE (c : Cr) (sec shift : Int) : Int := if c.ok then (if okTime sec shift then 0 else 1) else 1
def Cr.seekV (c : Cr) (sec shift side : Int) : Value := if c.ok = true ∧ okTime sec shift then (match c.seekO sec shift side with | none => .tuple #[.int .i64 0, .bool false, .int .i64 0] | some n => .tuple #[.int .i64 n, .bool true, .int .i64 0]) else .tuple #[.int .i64 0, .bool false, .int .i64 1]
def Cr7 (w : World) (b : Nat) (c : Cr) : Prop := Tide.At w b 24 c.cells
theorem rest_parts (t : Int) : 0 ≤ t % 86400 / 3600 ∧ t % 86400 / 3600 ≤ 23 ∧ 0 ≤ t % 86400 / 60 % 60 ∧ t % 86400 / 60 % 60 ≤ 59 ∧ 0 ≤ t % 86400 % 60 ∧ t % 86400 % 60 ≤ 59 ∧ t % 86400 / 3600 * 3600 + t % 86400 / 60 % 60 * 60 + t % 86400 % 60 = t % 86400 := by omega
end Go.Proofs.YthelnkoohbnjpaaDoor


namespace Go.Proofs.YthelnkoohbnjpaaDoor
open Go.RowKit
set_option linter.unusedVariables false
def Cr.seekN (c : Cr) (sec shift side : Int) : Int := if c.ok = true ∧ okTime sec shift then (c.seekO sec shift side).getD 0 else 0
def Cr.seekB (c : Cr) (sec shift side : Int) : Bool := if c.ok = true ∧ okTime sec shift then (c.seekO sec shift side).isSome else false
theorem Cr.seekV_is (c : Cr) (sec shift side : Int) : c.seekV sec shift side = .tuple #[.int .i64 (c.seekN sec shift side), .bool (c.seekB sec shift side), .int .i64 (c.seekE sec shift)] := by
  unfold Cr.seekV Cr.seekN Cr.seekB Cr.seekE
  by_cases h : c.ok = true ∧ okTime sec shift
  · rw [if_pos h, if_pos h, if_pos h, if_pos h.1, if_pos h.2]
    cases c.seekO sec shift side <;> rfl
  · rw [if_neg h, if_neg h, if_neg h]
    by_cases h1 : c.ok = true
    · rw [if_pos h1, if_neg (fun h2 => h ⟨h1, h2⟩)]
    · rw [if_neg h1]
end Go.Proofs.YthelnkoohbnjpaaDoor


namespace Go.Proofs.YthelnkoohbnjpaaDoor
open Go.RowKit
set_option linter.unusedVariables false
def spanE (a b : Cr) : Int := if a.ok then b.err else 1
def spanInB (a b : Cr) (sec shift : Int) : Bool := if spanE a b = 0 ∧ okTime sec shift then a.seekB sec shift (-1) && (!(b.seekB sec shift (-1)) || decide (b.seekN sec shift (-1) ≤ a.seekN sec shift (-1))) else false
def spanInE (a b : Cr) (sec shift : Int) : Int := if spanE a b = 0 then (if okTime sec shift then 0 else 1) else 1
set_option maxRecDepth 100000 in
set_option maxHeartbeats 1600000 in
theorem spanCheck (ai ah ad am aw bi bh bd bm bw : Nat) (aa ab ba bb : Bool) (ha : Cr.fits ⟨ai, ah, ad, am, aw, aa, ab⟩) (hb : Cr.fits ⟨bi, bh, bd, bm, bw, ba, bb⟩) (w : World) : Calls Tryd.prog 61 #[.agg #[.int .u64 (ai : Int), .int .u64 (ah : Int), .int .u64 (ad : Int), .int .u64 (am : Int), .int .u64 (aw : Int), .bool aa, .bool ab, .int .u64 (bi : Int), .int .u64 (bh : Int), .int .u64 (bd : Int), .int .u64 (bm : Int), .int .u64 (bw : Int), .bool ba, .bool bb]] w fun e w' => e = .returned (.int .i64 (spanE ⟨ai, ah, ad, am, aw, aa, ab⟩ ⟨bi, bh, bd, bm, bw, ba, bb⟩)) ∧ Below w.heap.size w w' := by
  have HCa := Lib.hid ha; have HCb := Lib.hid hb
  have HB := Lib.hid ((Below.refl w.heap.size w).alloc (Nat.le_refl _) (.cells #[.int .u64 (ai : Int), .int .u64 (ah : Int), .int .u64 (ad : Int), .int .u64 (am : Int), .int .u64 (aw : Int), .bool aa, .bool ab, .int .u64 (bi : Int), .int .u64 (bh : Int), .int .u64 (bd : Int), .int .u64 (bm : Int), .int .u64 (bw : Int), .bool ba, .bool bb] 80))
  have HX := Lib.hid (Tide.At.made w 80 #[.int .u64 (ai : Int), .int .u64 (ah : Int), .int .u64 (ad : Int), .int .u64 (am : Int), .int .u64 (aw : Int), .bool aa, .bool ab, .int .u64 (bi : Int), .int .u64 (bh : Int), .int .u64 (bd : Int), .int .u64 (bm : Int), .int .u64 (bw : Int), .bool ba, .bool bb])
  clear ha hb
  cases hok : Cr.ok ⟨ai, ah, ad, am, aw, aa, ab⟩
  · have he : Cr.err ⟨ai, ah, ad, am, aw, aa, ab⟩ = 1 := Cr.err_no hok
    have HE := Lib.hid (show spanE ⟨ai, ah, ad, am, aw, aa, ab⟩ ⟨bi, bh, bd, bm, bw, ba, bb⟩ = 1 by unfold spanE; rw [if_neg (by rw [hok]; simp)])
    clear hok
    go_enter Tryd.func61, Tryd.ntmps61
    go_wp2_with fail
    refine (cronCheck ⟨ai, ah, ad, am, aw, aa, ab⟩ HCa.out _).mono ?_
    rintro e w1 ⟨rfl, hb1⟩
    rw [he]
    have HF := Lib.hid (HB.out.trans (hb1.mono HB.out.size))
    clear hb1
    go_wp2_with fail
    go_ret
    exact ⟨by rw [HE.out] <;> rfl, HF.out⟩
  · have he : Cr.err ⟨ai, ah, ad, am, aw, aa, ab⟩ = 0 := Cr.err_yes hok
    have HE := Lib.hid (show spanE ⟨ai, ah, ad, am, aw, aa, ab⟩ ⟨bi, bh, bd, bm, bw, ba, bb⟩ = Cr.err ⟨bi, bh, bd, bm, bw, ba, bb⟩ by unfold spanE; rw [if_pos hok])
    clear hok
    go_enter Tryd.func61, Tryd.ntmps61
    go_wp2_with fail
    refine (cronCheck ⟨ai, ah, ad, am, aw, aa, ab⟩ HCa.out _).mono ?_
    rintro e w1 ⟨rfl, hb1⟩
    rw [he]
    have HB1 := Lib.hid (HB.out.trans (hb1.mono HB.out.size))
    have HX1 := Lib.hid (HX.out.below hb1 HX.out.inside)
    clear hb1
    have y0 := HX1.out.here (i := 7) rfl; have y1 := HX1.out.here (i := 8) rfl; have y2 := HX1.out.here (i := 9) rfl; have y3 := HX1.out.here (i := 10) rfl; have y4 := HX1.out.here (i := 11) rfl; have y5 := HX1.out.here (i := 12) rfl; have y6 := HX1.out.here (i := 13) rfl
    go_wp2_with fail
    refine (cronCheck ⟨bi, bh, bd, bm, bw, ba, bb⟩ HCb.out _).mono ?_
    rintro e w2 ⟨rfl, hb2⟩
    have HF := Lib.hid (HB1.out.trans (hb2.mono HB1.out.size))
    clear hb2 y0 y1 y2 y3 y4 y5 y6
    go_wp2_with fail
    go_ret
    exact ⟨by rw [HE.out] <;> rfl, HF.out⟩
end Go.Proofs.YthelnkoohbnjpaaDoor
