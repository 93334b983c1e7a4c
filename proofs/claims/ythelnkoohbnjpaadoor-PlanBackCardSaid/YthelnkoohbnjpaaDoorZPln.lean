/- A plan as plain data; what is wrong with one. The contracts of package plan: within, named, pace. -/
import Derived.Test.YthelnkoohbnjpaaDoorZSpan
import Derived.Test.YthelnkoohbnjpaaDoorStbM
import Derived.Laws.StructEq
import Derived.Deep.DeepCutAuto
import Derived.Deep.CutBlock

set_option linter.unusedVariables false
set_option linter.unusedSimpArgs false
namespace Go.Proofs.YthelnkoohbnjpaaDoor
open Go.RowKit
set_option linter.unusedVariables false
structure Trg where
  kind : Int
  target : Int
  act : Int
  a : Cr
  b : Cr
def Cr.list (c : Cr) : List Value := [.int .u64 (c.mi : Int), .int .u64 (c.h : Int), .int .u64 (c.d : Int), .int .u64 (c.mo : Int), .int .u64 (c.wk : Int), .bool c.ad, .bool c.aw]
def Trg.enc (t : Trg) : List Value := [.int .i64 t.kind, .int .i64 t.target, .int .i64 t.act, .int .u64 (t.a.mi : Int), .int .u64 (t.a.h : Int), .int .u64 (t.a.d : Int), .int .u64 (t.a.mo : Int), .int .u64 (t.a.wk : Int), .bool t.a.ad, .bool t.a.aw, .int .u64 (t.b.mi : Int), .int .u64 (t.b.h : Int), .int .u64 (t.b.d : Int), .int .u64 (t.b.mo : Int), .int .u64 (t.b.wk : Int), .bool t.b.ad, .bool t.b.aw]
theorem Trg.enc_length (t : Trg) : t.enc.length = 17 := rfl
def Trg.fits (t : Trg) : Prop := t.a.fits ∧ t.b.fits
def Cr.isZero (c : Cr) : Bool := c.mi == 0 && c.h == 0 && c.d == 0 && c.mo == 0 && c.wk == 0 && !c.ad && !c.aw
def wiB (n lo hi : Int) : Bool := decide (lo ≤ n) && decide (n ≤ hi)
/-- what is wrong with a trigger -/
def trigE (t : Trg) : Int :=
  if t.kind = 1 ∨ t.kind = 2 then (if wiB t.target 1 1000000 && (wiB t.act 0 1000000 && (t.a.isZero && t.b.isZero)) then 0 else 1)
  else if t.kind = 3 then (if wiB t.target 1 50 && t.act == 0 then spanE t.a t.b else 1) else 1
def trigsE : List Trg → Int
  | [] => 0
  | t :: l => if trigE t = 0 then trigsE l else trigE t
theorem trigsE_all {l : List Trg} (h : ∀ t ∈ l, trigE t = 0) : trigsE l = 0 := by
  induction l with
  | nil => rfl
  | cons t l ih => unfold trigsE; rw [if_pos (h t (by simp))]; exact ih fun u hu => h u (by simp [hu])
theorem trigsE_at {l : List Trg} : ∀ {k : Nat} {t : Trg}, l[k]? = some t → (∀ q u, q < k → l[q]? = some u → trigE u = 0) → trigE t ≠ 0 → trigsE l = trigE t := by
  induction l with
  | nil => intro k t h; simp at h
  | cons u l ih =>
    intro k t h hlo hne
    rcases k with _ | k
    · simp at h; subst h; unfold trigsE; rw [if_neg hne]
    · simp at h
      unfold trigsE
      rw [if_pos (hlo 0 u (by omega) rfl)]
      exact ih h (fun q v hq hv => hlo (q + 1) v (by omega) (by simpa using hv)) hne
theorem trigsE_mem {l : List Trg} (h : trigsE l = 0) : ∀ t ∈ l, trigE t = 0 := by
  induction l with
  | nil => intro t ht; cases ht
  | cons u l ih =>
    unfold trigsE at h
    by_cases hu : trigE u = 0
    · rw [if_pos hu] at h
      intro t ht
      rcases List.mem_cons.1 ht with rfl | ht
      · exact hu
      · exact ih h t ht
    · rw [if_neg hu] at h; exact absurd h hu
structure Pln where
  name : ByteArray
  mn : Int
  mx : Int
  poll : Int
  cool : Int
  tol : Int
  back : Int
  after : Int
  shift : Int
  up : Tide.Pace
  down : Tide.Pace
  trigs : List Trg
def byteOk (b : UInt8) : Bool := (decide (97 ≤ b.toNat) && decide (b.toNat ≤ 122)) || (decide (48 ≤ b.toNat) && decide (b.toNat ≤ 57)) || b == 45
def nameOk (s : ByteArray) : Bool := s.data.all byteOk && wiB s.size 1 16
def paceOk (p : Tide.Pace) : Bool := wiB p.win 0 100000 && (wiB p.pods 0 50 && (wiB p.pct 0 1000 && wiB p.per 0 100000))
def Pln.nums (p : Pln) : Bool := wiB p.mn 0 50 && (wiB p.mx (max 1 p.mn) 50 && (wiB p.poll 1 100000 && (wiB p.cool 1 100000 && (wiB p.tol 0 1000 && (wiB p.back 0 50 && (wiB p.after 0 100 && (wiB p.shift (-900) 900 && (paceOk p.up && paceOk p.down))))))))
/-- what is wrong with a plan -/
def planE (p : Pln) : Int := if nameOk p.name = false then 3 else if 5 < p.trigs.length then 2 else if p.nums = false then 1 else trigsE p.trigs
structure Pln.ok (p : Pln) : Prop where
  mn : 0 ≤ p.mn ∧ p.mn ≤ 50
  mx : 1 ≤ p.mx ∧ p.mn ≤ p.mx ∧ p.mx ≤ 50
  poll : 1 ≤ p.poll ∧ p.poll ≤ 100000
  cool : 1 ≤ p.cool ∧ p.cool ≤ 100000
  tol : 0 ≤ p.tol ∧ p.tol ≤ 1000
  back : 0 ≤ p.back ∧ p.back ≤ 50
  after : 0 ≤ p.after ∧ p.after ≤ 100
  shift : -900 ≤ p.shift ∧ p.shift ≤ 900
  few : p.trigs.length ≤ 5
  each : ∀ t ∈ p.trigs, trigE t = 0
theorem wiB_iff {n lo hi : Int} : wiB n lo hi = true ↔ lo ≤ n ∧ n ≤ hi := by unfold wiB; simp
theorem planE_ok {p : Pln} (h : planE p = 0) : p.ok := by
  unfold planE at h
  split at h
  · cases h
  · split at h
    · cases h
    · split at h
      · cases h
      · rename_i h1 h2 h3
        have h3' : p.nums = true := by simpa using h3
        unfold Pln.nums at h3'
        simp only [Bool.and_eq_true, wiB_iff] at h3'
        obtain ⟨a, b, c, d, e, f, g, i, _, _⟩ := h3'
        exact ⟨a, ⟨by omega, by omega, b.2⟩, c, d, e, f, g, i, by omega, trigsE_mem h⟩
theorem planE_bd (p : Pln) : 0 ≤ planE p ∧ planE p ≤ 3 := by
  have ht : ∀ t : Trg, 0 ≤ trigE t ∧ trigE t ≤ 1 := fun t => by
    have hs : 0 ≤ spanE t.a t.b ∧ spanE t.a t.b ≤ 1 := by unfold spanE Cr.err; cases t.a.ok <;> cases t.b.ok <;> simp
    unfold trigE
    split
    · split <;> omega
    · split
      · split <;> omega
      · omega
  have hl : ∀ l : List Trg, 0 ≤ trigsE l ∧ trigsE l ≤ 1 := fun l => by
    induction l with
    | nil => exact ⟨Int.le_refl _, by show (0 : Int) ≤ 1; omega⟩
    | cons t l ih => unfold trigsE; split; exact ih; exact ht t
  have := hl p.trigs
  unfold planE
  split
  · omega
  · split
    · omega
    · split <;> omega
def Pln.head (p : Pln) (vt : Value) : List Value := [.string p.name, .int .i64 p.mn, .int .i64 p.mx, .int .i64 p.poll, .int .i64 p.cool, .int .i64 p.tol, .int .i64 p.back, .int .i64 p.after, .int .i64 p.shift, .int .i64 p.up.win, .int .i64 p.up.pods, .int .i64 p.up.pct, .int .i64 p.up.per, .int .i64 p.down.win, .int .i64 p.down.pods, .int .i64 p.down.pct, .int .i64 p.down.per, vt]
/-- a plan among the arguments -/
def plnV (p : Pln) (vt : Value) : Value := .agg #[.string p.name, .int .i64 p.mn, .int .i64 p.mx, .int .i64 p.poll, .int .i64 p.cool, .int .i64 p.tol, .int .i64 p.back, .int .i64 p.after, .int .i64 p.shift, .int .i64 p.up.win, .int .i64 p.up.pods, .int .i64 p.up.pct, .int .i64 p.up.per, .int .i64 p.down.win, .int .i64 p.down.pods, .int .i64 p.down.pct, .int .i64 p.down.per, vt]
def plnC (p : Pln) (vt : Value) : Array Value := #[.string p.name, .int .i64 p.mn, .int .i64 p.mx, .int .i64 p.poll, .int .i64 p.cool, .int .i64 p.tol, .int .i64 p.back, .int .i64 p.after, .int .i64 p.shift, .int .i64 p.up.win, .int .i64 p.up.pods, .int .i64 p.up.pct, .int .i64 p.up.per, .int .i64 p.down.win, .int .i64 p.down.pods, .int .i64 p.down.pct, .int .i64 p.down.per, vt]
end Go.Proofs.YthelnkoohbnjpaaDoor


namespace Go.Proofs.YthelnkoohbnjpaaDoor
open Go.RowKit
set_option linter.unusedVariables false
set_option maxHeartbeats 400000 in
theorem planWithin (n lo hi : Int) (w : World) : Calls Tryd.prog 45 #[.int .i64 n, .int .i64 lo, .int .i64 hi] w fun e w' => e = .returned (.bool (wiB n lo hi)) ∧ w = w' := by
  by_cases h0 : lo ≤ n
  · by_cases h1 : n ≤ hi
    · have hv := Lib.hid (show wiB n lo hi = true by unfold wiB; simp [h0, h1])
      go_enter Tryd.func45, Tryd.ntmps45
      go_wp2
      go_ret
      exact ⟨by rw [hv.out] <;> rfl, rfl⟩
    · have hv := Lib.hid (show wiB n lo hi = false by unfold wiB; simp [h1])
      have h2 : hi < n := by omega
      have h3 : decide (n ≤ hi) = false := decide_eq_false h1
      clear h1
      go_enter Tryd.func45, Tryd.ntmps45
      go_wp2
      go_ret
      exact ⟨by rw [hv.out] <;> rfl, rfl⟩
  · have hv := Lib.hid (show wiB n lo hi = false by unfold wiB; simp [h0])
    have h2 : n < lo := by omega
    clear h0
    go_enter Tryd.func45, Tryd.ntmps45
    go_wp2
    go_ret
    exact ⟨by rw [hv.out] <;> rfl, rfl⟩
def byteAt (s : ByteArray) (k : Nat) : Nat := (s.data[k]?.getD 0).toNat
theorem byte_at {s : ByteArray} {k : Nat} (h : k < s.size) : (s[k]'h).toNat = byteAt s k := by
  unfold byteAt
  have e : s.data[k]? = some (s.data[k]'h) := Array.getElem?_eq_getElem h
  rw [e]; rfl
def byteB (x : Nat) : Bool := (decide (97 ≤ x) && decide (x ≤ 122)) || (decide (48 ≤ x) && decide (x ≤ 57)) || x == 45
theorem byteB_is (b : UInt8) : byteB b.toNat = byteOk b := by
  unfold byteB byteOk
  congr 1
  rw [Bool.eq_iff_iff]
  simp only [beq_iff_eq]
  exact ⟨fun h => UInt8.toNat_inj.1 h, fun h => by rw [h]; rfl⟩
theorem name_all (s : ByteArray) : s.data.all byteOk = true ↔ ∀ k, k < s.size → byteB (byteAt s k) = true := by
  rw [Array.all_eq_true]
  constructor
  · intro h k hk
    unfold byteAt
    rw [Array.getElem?_eq_getElem hk]
    show byteB _ = true
    rw [Option.getD_some, byteB_is]
    exact h k hk
  · intro h k hk
    have := h k hk
    unfold byteAt at this
    rw [Array.getElem?_eq_getElem hk, Option.getD_some, byteB_is] at this
    exact this
theorem name_bad {s : ByteArray} {k : Nat} (hk : k < s.size) (h : byteB (byteAt s k) = false) : nameOk s = false := by
  unfold nameOk
  cases ha : s.data.all byteOk
  · rfl
  · rw [(name_all s).1 ha k hk] at h; cases h
theorem name_good {s : ByteArray} (h : ∀ k, k < s.size → byteB (byteAt s k) = true) : nameOk s = wiB s.size 1 16 := by
  unfold nameOk
  rw [(name_all s).2 h]; rfl
theorem byteAt_bd (s : ByteArray) (k : Nat) : byteAt s k ≤ 255 := by
  unfold byteAt
  have := UInt8.toNat_lt (s.data[k]?.getD 0)
  omega
set_option maxHeartbeats 1600000 in
theorem planNamed (s : ByteArray) (hs : s.size ≤ 9223372036854775807) (w : World) : Calls Tryd.prog 44 #[.string s] w fun e w' => e = .returned (.bool (nameOk s)) ∧ w = w' := by
  go_enter Tryd.func44, Tryd.ntmps44
  go_wp2_with fail
  go_loop [7] (fun i => ∃ k : Nat, k ≤ s.size ∧ i = .int .i64 k ∧ Hid (∀ q, q < k → byteB (byteAt s q) = true)) (fun i => s.size - (intOf i).toNat)
  case atStart => exact ⟨0, by omega, rfl, Lib.hid (fun q hq => by omega)⟩
  case round =>
    obtain ⟨k, hk, rfl, HN⟩ := hrel
    by_cases hlt : k < s.size
    · have i0 : (0 : Int) ≤ (k : Int) := by omega
      have i1 : (k : Int) < (s.size : Int) := by omega
      have HYes := Lib.hid (fun (h : byteB (byteAt s k) = true) => (show ∀ q, q < k + 1 → byteB (byteAt s q) = true from fun q hq => by
        rcases Nat.lt_succ_iff_lt_or_eq.1 hq with c | c
        · exact HN.out q c
        · rw [c]; exact h))
      have HNo := Lib.hid (fun (h : byteB (byteAt s k) = false) => name_bad hlt h)
      have HVal := Lib.hid (show byteB (byteAt s k) = ((decide (97 ≤ byteAt s k) && decide (byteAt s k ≤ 122)) || (decide (48 ≤ byteAt s k) && decide (byteAt s k ≤ 57)) || byteAt s k == 45) from rfl)
      have hx := byteAt_bd s k
      go_upto_region 5 with fail
      rw [byte_at hlt]
      generalize byteAt s k = x at HYes HNo HVal hx ⊢
      have x0 : (0 : Int) ≤ (x : Int) := by omega
      have x1 : (x : Int) ≤ 255 := by omega
      have HK := Lib.hid hlt
      clear hx hk
      by_cases a1 : x < 97
      · by_cases b1 : x < 48
        · by_cases c1 : x = 45
          · have HF := Lib.hid (HYes.out (by rw [HVal.out, c1]; rfl))
            subst c1
            clear a1 b1 x0 x1 HYes HNo HVal
            go_wp2_with fail
            go_round
            case rel => exact ⟨k + 1, by have := HK.out; omega, by go_num, HF⟩
            case measure => have := HK.out; simp [intOf]; omega
          · have HF := Lib.hid (HNo.out (by rw [HVal.out, decide_eq_false (show ¬ 97 ≤ x by omega), decide_eq_false (show ¬ 48 ≤ x by omega)]; simpa using c1))
            have c2 : ((x : Int) != 45) = true := by simp; omega
            have b2 : (x : Int) < 48 := by omega
            have a2 : (x : Int) < 97 := by omega
            clear a1 b1 c1 HYes HNo HVal
            go_wp2_with fail
            go_ret
            exact ⟨by rw [HF.out] <;> rfl, rfl⟩
        · by_cases b2 : 57 < x
          · have HF := Lib.hid (HNo.out (by rw [HVal.out, decide_eq_false (show ¬ 97 ≤ x by omega), decide_eq_false (show ¬ x ≤ 57 by omega)]; simp; omega))
            have c2 : ((x : Int) != 45) = true := by simp; omega
            have b3 : (57 : Int) < (x : Int) := by omega
            have b4 : (48 : Int) ≤ (x : Int) := by omega
            have a2 : (x : Int) < 97 := by omega
            clear a1 b1 b2 HYes HNo HVal
            go_wp2_with fail
            go_ret
            exact ⟨by rw [HF.out] <;> rfl, rfl⟩
          · have HF := Lib.hid (HYes.out (by rw [HVal.out, decide_eq_true (show 48 ≤ x by omega), decide_eq_true (show x ≤ 57 by omega)]; simp))
            have b3 : (x : Int) ≤ 57 := by omega
            have b4 : (48 : Int) ≤ (x : Int) := by omega
            have a2 : (x : Int) < 97 := by omega
            clear a1 b1 b2 HYes HNo HVal
            go_wp2_with fail
            go_round
            case rel => exact ⟨k + 1, by have := HK.out; omega, by go_num, HF⟩
            case measure => have := HK.out; simp [intOf]; omega
      · by_cases a2 : 122 < x
        · have HF := Lib.hid (HNo.out (by rw [HVal.out, decide_eq_false (show ¬ x ≤ 122 by omega), decide_eq_false (show ¬ x ≤ 57 by omega)]; simp; omega))
          have c2 : ((x : Int) != 45) = true := by simp; omega
          have a3 : (122 : Int) < (x : Int) := by omega
          have b4 : (57 : Int) < (x : Int) := by omega
          have a4 : (97 : Int) ≤ (x : Int) := by omega
          clear a1 a2 HYes HNo HVal
          go_wp2_with fail
          go_ret
          exact ⟨by rw [HF.out] <;> rfl, rfl⟩
        · have HF := Lib.hid (HYes.out (by rw [HVal.out, decide_eq_true (show 97 ≤ x by omega), decide_eq_true (show x ≤ 122 by omega)]; simp))
          have a3 : (x : Int) ≤ 122 := by omega
          have a4 : (97 : Int) ≤ (x : Int) := by omega
          clear a1 a2 HYes HNo HVal
          go_wp2_with fail
          go_round
          case rel => exact ⟨k + 1, by have := HK.out; omega, by go_num, HF⟩
          case measure => have := HK.out; simp [intOf]; omega
    · have hie : k = s.size := by omega
      subst hie
      have HF := Lib.hid (name_good HN.out)
      clear hk hlt
      go_wp2_with fail
      refine (planWithin _ 1 16 _).mono ?_
      rintro e w' ⟨rfl, rfl⟩
      go_wp2_with fail
      go_ret
      exact ⟨by rw [HF.out] <;> rfl, rfl⟩
end Go.Proofs.YthelnkoohbnjpaaDoor
