/- Parts of this claim: Mem, CronM, CronC, NumM, NumC, CivM, CivC, CivD. -/
import Derived.Test.YtidonhndeohdlaaGreatTj
import Derived.WalkKit
import Derived.Deep.Draws
import Derived.Laws.BitsAllLaws
import Derived.WalkSpells
import Derived.WalkLawsBesides
import Derived.Lib.Hide
import Derived.Handy
import Derived.Deep.QuietTactic
import Derived.BigQuiet
import Derived.BigRegion
import Derived.Test.YtidonhndeohdlaaGreatRows
set_option linter.unusedVariables false
set_option linter.unusedSimpArgs false
set_option maxRecDepth 100000
set_option maxHeartbeats 12800000
namespace G
open Go Go.RowKit
def At (w : World) (g : Nat) (t : TypeId) (cs : Array Value) : Prop := w.heap[g]? = some (.cells cs t (0, 0))
section
variable {w w' : World} {g : Nat} {t : TypeId} {cs : Array Value}
theorem At.inside (h : At w g t cs) : g < w.heap.size := by
 rcases Nat.lt_or_ge g w.heap.size with hl | hl
 ·exact hl
 unfold At at h; rw [Array.getElem?_eq_none hl] at h; exact absurd h (by simp)
theorem At.here {i : Nat} {v : Value} (h : At w g t cs) (hv : cs[i]? = some v) : w.cell? ⟨g, i, none⟩ = some v := (cell_of_row w g i cs t (0, 0) h).trans hv
theorem At.soft (h : At w g t cs) (i : Nat) : w.frozen? ⟨g, i, none⟩ = false := by
 have h' : w.heap[g]? = some (.cells cs t (0, 0)) := h
 simp [World.frozen?, h']
theorem At.made (w : World) (t : TypeId) (cs : Array Value) : At (w.alloc (.cells cs t)) w.heap.size t cs := heap_alloc_new w _
theorem At.alloc (h : At w g t cs) (o : Obj) : At (w.alloc o) g t cs := (Below.heap_alloc w o g h.inside).trans h
theorem At.drew (h : At w g t cs) : At w.drew g t cs := h
theorem At.drewN (h : At w g t cs) (n : Nat) : At (w.drewN n) g t cs := h
theorem At.put (h : At w g t cs) (i : Nat) (u : Value) : At (w.setCell ⟨g, i, none⟩ u) g t (cs.setIfInBounds i u) := by
 have h' : w.heap[g]? = some (.cells cs t (0, 0)) := h
 show (w.setCell ⟨g, i, none⟩ u).heap[g]? = _
 simp [World.setCell, Array.getElem?_modify, h']
theorem At.other (h : At w g t cs) {p : Addr} (hp : g ≠ p.block) (u : Value) : At (w.setCell p u) g t cs := (Below.heap_setCell w p u g hp).trans h
theorem At.below {B : Nat} (h : At w g t cs) (hb : Below B w w') (hg : g < B) : At w' g t cs := (hb.block g hg).trans h
theorem At.same_of {cs' : Array Value} {t' : TypeId} (h : At w g t cs) (h' : At w g t' cs') : t = t' ∧ cs = cs' := by
 have e : some (Obj.cells cs t (0, 0)) = some (Obj.cells cs' t' (0, 0)) := Eq.trans (Eq.symm h) h'
 injection e with e
 injection e with e1 e2
 exact ⟨e2, e1⟩
theorem At.apart {g' : Nat} {cs' : Array Value} {t' : TypeId} (h : At w g t cs) (h' : At w g' t' cs') (hne : t ≠ t') : g ≠ g' := by
 rintro rfl; exact hne (h.same_of h').1
end
structure Chg (S : Nat → Prop) (w w' : World) : Prop where
 os : w'.os = w.os
 tape : w'.tape = w.tape
 output : w'.output = w.output
 size : w.heap.size ≤ w'.heap.size
 block : ∀ k, k < w.heap.size → ¬ S k → w'.heap[k]? = w.heap[k]?
section
variable {S S' : Nat → Prop} {a w w' : World}
theorem Chg.refl (S : Nat → Prop) (w : World) : Chg S w w := ⟨rfl, rfl, rfl, Nat.le_refl _, fun _ _ _ => rfl⟩
theorem Chg.trans (h : Chg S a w) (k : Chg S w w') : Chg S a w' :=
 ⟨k.os.trans h.os, k.tape.trans h.tape, k.output.trans h.output, Nat.le_trans h.size k.size, fun i hi hs => (k.block i (Nat.lt_of_lt_of_le hi h.size) hs).trans (h.block i hi hs)⟩
theorem Chg.mono (h : Chg S w w') (hs : ∀ k, k < w.heap.size → S k → S' k) : Chg S' w w' := ⟨h.os, h.tape, h.output, h.size, fun k hk hn => h.block k hk (fun c => hn (hs k hk c))⟩
theorem Chg.drew (h : Chg S a w) : Chg S a w.drew := ⟨h.os, h.tape, h.output, h.size, h.block⟩
theorem Chg.drewN (h : Chg S a w) (n : Nat) : Chg S a (w.drewN n) := ⟨h.os, h.tape, h.output, h.size, h.block⟩
theorem Chg.alloc (h : Chg S a w) (o : Obj) : Chg S a (w.alloc o) :=
 ⟨h.os, h.tape, h.output, Nat.le_trans h.size (by simp), fun k hk hs => (Below.heap_alloc w o k (Nat.lt_of_lt_of_le hk h.size)).trans (h.block k hk hs)⟩
theorem Chg.put (h : Chg S a w) {p : Addr} (hp : S p.block ∨ a.heap.size ≤ p.block) (u : Value) : Chg S a (w.setCell p u) :=
 ⟨h.os, h.tape, h.output, by simpa [World.setCell] using h.size, fun k hk hs => (Below.heap_setCell w p u k (by
  rintro rfl
  rcases hp with c | c
  ·exact hs c
  omega)).trans (h.block k hk hs)⟩
theorem Chg.grown {row : Option Nat} (h : Chg S a w) (hg : w.grownBy w' row) (hr : ∀ g, row = some g → S g ∨ a.heap.size ≤ g) : Chg S a w' :=
 ⟨hg.os.trans h.os, hg.tape.trans h.tape, hg.output.trans h.output, Nat.le_trans h.size hg.size, fun k hk hs => (hg.block k (Nat.lt_of_lt_of_le hk h.size) (fun e => by
  rcases hr k e.symm with c | c
  ·exact hs c
  omega)).trans (h.block k hk hs)⟩
theorem Chg.step {S1 : Nat → Prop} (h : Chg S a w) (k : Chg S1 w w') (hs : ∀ g, S1 g → S g ∨ a.heap.size ≤ g) : Chg S a w' :=
 ⟨k.os.trans h.os, k.tape.trans h.tape, k.output.trans h.output, Nat.le_trans h.size k.size, fun i hi hn => (k.block i (Nat.lt_of_lt_of_le hi h.size) (fun c => by
  rcases hs i c with d | d
  ·exact hn d
  omega)).trans (h.block i hi hn)⟩
theorem Chg.of_below {B : Nat} (h : Below B w w') (hB : w.heap.size ≤ B) : Chg S w w' := ⟨h.os, h.tape, h.output, h.size, fun k hk _ => h.block k (by omega)⟩
theorem Chg.step_below {B : Nat} (h : Chg S a w) (k : Below B w w') (hB : a.heap.size ≤ B) : Chg S a w' :=
 ⟨k.os.trans h.os, k.tape.trans h.tape, k.output.trans h.output, Nat.le_trans h.size k.size, fun i hi hn => (k.block i (by omega)).trans (h.block i hi hn)⟩
theorem Chg.below {B : Nat} (h : Chg S w w') (hB : B ≤ w.heap.size) (hs : ∀ k, k < B → ¬ S k) : Below B w w' := ⟨h.os, h.tape, h.output, h.size, fun k hk => h.block k (by omega) (hs k hk)⟩
theorem At.chg {g : Nat} {t : TypeId} {cs : Array Value} (h : At w g t cs) (hc : Chg S w w') (hs : ¬ S g) : At w' g t cs := (hc.block g h.inside hs).trans h
theorem At.grown {g : Nat} {t : TypeId} {cs : Array Value} {row : Option Nat} (h : At w g t cs) (hg : w.grownBy w' row) (hn : row ≠ some g) : At w' g t cs := (hg.block g h.inside (fun e => hn e.symm)).trans h
end
theorem own_ge {w : World} {B : Nat} {e : TypeId} {s : Nat} {v : Value} {n : Nat} {xs : List Value} (h : w.ownsRow B e s v n xs) : ∀ g, v.ownBlock = some g → B ≤ g := by
 intro g hg
 rcases h.2 with ⟨rfl, _⟩ | ⟨g', cap, cur, rfl, hb, _⟩
 ·simp [Value.ownBlock] at hg
 simp [Value.ownBlock] at hg; omega
theorem new_one {w : World} {T : TypeId} {v : Value} {g : Nat} (hg : g = w.heap.size) : ∀ (j : Nat) (u : Value), [v][j]? = some u → (w.alloc (.cells #[v] T)).cell? ((⟨g, 0, none⟩ : Addr).add j) = some u := by
 intro j u hu
 subst hg
 rcases j with _ | j
 ·simp at hu; subst hu
  show (w.alloc (.cells #[v] T)).cell? ⟨w.heap.size, 0, none⟩ = some v
  simp
 simp at hu
end G
namespace G
open Go
theorem ofInt_u64 (a : Nat) (ha : a < 18446744073709551616) : (BitVec.ofInt 64 (a : Int)).toNat = a := by
 rw [BitVec.ofInt_natCast, BitVec.toNat_ofNat]; exact Nat.mod_eq_of_lt ha
theorem wrap_u64_nat (a : Nat) (ha : a < 18446744073709551616) : IntKind.u64.wrap (a : Int) = a := by
 rw [IntKind.wrap_u64]; omega
theorem and_u64 (a b : Nat) (ha : a < 18446744073709551616) (hb : b < 18446744073709551616) : bits .and .u64 (a : Int) (b : Int) = ((a &&& b : Nat) : Int) := by
 show IntKind.u64.wrap ((BitVec.ofInt 64 (a : Int) &&& BitVec.ofInt 64 (b : Int)).toNat : Int) = _
 rw [BitVec.toNat_and, ofInt_u64 a ha, ofInt_u64 b hb]
 exact wrap_u64_nat _ (Nat.lt_of_le_of_lt Nat.and_le_left ha)
theorem andNot_u64 (a b : Nat) (ha : a < 18446744073709551616) (hb : b < 18446744073709551616) : ∃ c : Nat, bits .andNot .u64 (a : Int) (b : Int) = (c : Int) ∧ c < 18446744073709551616 ∧ ∀ n, c.testBit n = (a.testBit n && !b.testBit n) := by
 refine ⟨(BitVec.ofInt 64 (a : Int) &&& ~~~ BitVec.ofInt 64 (b : Int)).toNat, ?_, BitVec.isLt _, fun n => ?_⟩
 ·show IntKind.u64.wrap ((BitVec.ofInt 64 (a : Int) &&& ~~~ BitVec.ofInt 64 (b : Int)).toNat : Int) = _
  exact wrap_u64_nat _ (BitVec.isLt _)
 rw [BitVec.toNat_and, Nat.testBit_and, ofInt_u64 a ha]
 by_cases hn : n < 64
 ·congr 1
  rw [BitVec.testBit_toNat, BitVec.getLsbD_not, ← BitVec.testBit_toNat, ofInt_u64 b hb]
  simp [hn]
 have : a.testBit n = false := Nat.testBit_lt_two_pow (Nat.lt_of_lt_of_le ha (by
  show 2 ^ 64 ≤ 2 ^ n
  exact Nat.pow_le_pow_right (by omega) (by omega)))
 rw [this]; rfl
def allN (lo hi : Nat) : Nat := 2 ^ (hi + 1) - 2 ^ lo
theorem allN_bit (lo hi n : Nat) (h : lo ≤ hi) : (allN lo hi).testBit n = (decide (lo ≤ n) && decide (n ≤ hi)) := by
 have e : allN lo hi = 2 ^ lo * (2 ^ (hi + 1 - lo) - 1) := by
  unfold allN
  rw [Nat.mul_sub, ← Nat.pow_add, Nat.mul_one, show lo + (hi + 1 - lo) = hi + 1 by omega]
 rw [e, Nat.testBit_two_pow_mul, Nat.testBit_two_pow_sub_one]
 by_cases h1 : lo ≤ n
 ·have : (n - lo < hi + 1 - lo) ↔ n ≤ hi := by omega
  simp [h1, this]
 simp [h1]
theorem allN_lt (lo hi : Nat) (h : hi ≤ 62) : allN lo hi < 9223372036854775808 := by
 have h1 : 2 ^ (hi + 1) ≤ 2 ^ 63 := Nat.pow_le_pow_right (by omega) (by omega)
 have h2 : 0 < 2 ^ lo := Nat.two_pow_pos _
 unfold allN
 have : 2 ^ 63 = 9223372036854775808 := by decide
 omega
theorem shift_bit (s : Nat) (k : Nat) (h : s < 18446744073709551616) : (bits .and .u64 ((s : Int) / 2 ^ k) 1 == 1) = s.testBit k := by
 have e : ((s : Int) / 2 ^ k) = ((s / 2 ^ k : Nat) : Int) := by simp
 rw [e, show (1 : Int) = ((1 : Nat) : Int) from rfl, and_u64 _ _ (Nat.lt_of_le_of_lt (Nat.div_le_self _ _) h) (by omega)]
 rw [Nat.testBit_eq_decide_div_mod_eq, Nat.and_one_is_mod]
 rw [Bool.eq_iff_iff]; simp; omega
def okField (s : Int) (lo hi : Nat) (any : Bool) : Bool := !(s == 0) && (bits .andNot .u64 s (allN lo hi : Nat) == 0) && (!any || s == ((allN lo hi : Nat) : Int))
theorem okField_iff (s : Nat) (hs : s < 18446744073709551616) (lo hi : Nat) (h : lo ≤ hi) (h' : hi ≤ 62) (any : Bool) :
  okField (s : Int) lo hi any = true ↔ s ≠ 0 ∧ (∀ n, s.testBit n = true → lo ≤ n ∧ n ≤ hi) ∧ (any = true → ∀ n, lo ≤ n → n ≤ hi → s.testBit n = true) := by
 have hA := allN_lt lo hi h'
 obtain ⟨c, hc, hc', hb⟩ := andNot_u64 s (allN lo hi) hs (by omega)
 have hzero : c = 0 ↔ ∀ n, s.testBit n = true → lo ≤ n ∧ n ≤ hi := by
  constructor
  ·intro h0 n hn
   have := hb n
   rw [h0, Nat.zero_testBit, hn, allN_bit lo hi n h] at this
   simp at this
   exact this
  intro h0
  apply Nat.eq_of_testBit_eq
  intro n
  rw [hb, Nat.zero_testBit, allN_bit lo hi n h]
  cases hn : s.testBit n with
  | false => rfl
  | true => have := h0 n hn; simp [this]
 unfold okField
 rw [hc]
 simp only [Bool.and_eq_true, Bool.or_eq_true, Bool.not_eq_true', beq_eq_false_iff_ne, ne_eq, beq_iff_eq]
 constructor
 ·rintro ⟨⟨h1, h2⟩, h3⟩
  refine ⟨by omega, hzero.1 (by omega), fun ha n n0 n1 => ?_⟩
  rcases h3 with h3 | h3
  ·rw [ha] at h3; cases h3
  have : s = allN lo hi := by omega
  rw [this, allN_bit lo hi n h]; simp [n0, n1]
 rintro ⟨h1, h2, h3⟩
 refine ⟨⟨by omega, by rw [hzero.2 h2]; rfl⟩, ?_⟩
 cases any with
 | false => exact .inl rfl
 | true =>
  right
  have : s = allN lo hi := by
   apply Nat.eq_of_testBit_eq
   intro n
   rw [allN_bit lo hi n h]
   cases hn : s.testBit n with
   | true => have := h2 n hn; simp [this]
   | false =>
    by_cases hh : lo ≤ n ∧ n ≤ hi
    ·have := h3 rfl n hh.1 hh.2
     rw [this] at hn; cases hn
    by_cases h4 : lo ≤ n
    ·have : ¬ n ≤ hi := fun h5 => hh ⟨h4, h5⟩
     simp [this]
    simp [h4]
  omega
end G
namespace Go.Proofs.YtidonhndeohdlaaGreat
open Go.RowKit
theorem ret_int {k : IntKind} {a b : Int} (h : a = b) : Ending.returned (.int k a) = .returned (.int k b) := by rw [h]
def hasB (s : Nat) (n : Int) : Bool := decide (0 ≤ n) && decide (n < 64) && s.testBit n.toNat
theorem cronHas (s : Nat) (n : Int) (w : World) (hs : s < 18446744073709551616) : Calls Tryz.prog 178 #[.int .u64 (s : Int), .int .i64 n] w fun e w' => e = .returned (.bool (hasB s n)) ∧ w = w' := by
 by_cases h0 : 0 ≤ n
 ·by_cases h1 : n < 64
  ·obtain ⟨k, rfl⟩ := Int.eq_ofNat_of_zero_le h0
   have hb := J (G.shift_bit s k hs)
   have k1 : Hid (hasB s (k : Int) = s.testBit k) := by show _ = _; unfold hasB; simp; omega
   have s0 : (0 : Int) ≤ (s : Int) := by omega
   have s1 := J hs
   clear hs
   go_enter Tryz.func178, Tryz.ntmps178
   go_wp2
   go_ret
   refine ⟨?_, rfl⟩
   rw [k1.u, ← hb.u]
   first | rfl | (simp; done)
  have k : hasB s n = false := by unfold hasB; simp [h1]
  rw [k]
  clear hs
  go_enter Tryz.func178, Tryz.ntmps178
  go_wp2
  go_ret
  exact ⟨rfl, rfl⟩
 have k : hasB s n = false := by unfold hasB; simp [h0]
 rw [k]
 clear hs
 go_enter Tryz.func178, Tryz.ntmps178
 go_wp2
 go_ret
 exact ⟨rfl, rfl⟩
theorem pow_u64 {k : Nat} (h : k ≤ 62) : IntKind.u64.wrap ((2 : Int) ^ k) = ((2 ^ k : Nat) : Int) := by
 have e : ((2 : Int) ^ k) = ((2 ^ k : Nat) : Int) := by simp
 rw [e]
 exact G.wrap_u64_nat _ (Nat.lt_of_le_of_lt (Nat.pow_le_pow_right (by omega) h) (by decide))
theorem all_eq {lo hi : Nat} (h1 : lo ≤ hi) (h2 : hi ≤ 60) : IntKind.u64.wrap (IntKind.u64.wrap ((2 : Int) ^ ((hi : Int) + 1).toNat) - IntKind.u64.wrap ((2 : Int) ^ ((lo : Int)).toNat)) = ((G.allN lo hi : Nat) : Int) := by
 rw [show ((hi : Int) + 1).toNat = hi + 1 by omega, show ((lo : Int)).toNat = lo by omega, pow_u64 (by omega), pow_u64 (by omega)]
 have h3 : 2 ^ lo ≤ 2 ^ (hi + 1) := Nat.pow_le_pow_right (by omega) (by omega)
 have := G.allN_lt lo hi (by omega)
 have e : (((2 ^ (hi + 1) : Nat) : Int) - ((2 ^ lo : Nat) : Int)) = ((G.allN lo hi : Nat) : Int) := by unfold G.allN; omega
 rw [e]
 exact G.wrap_u64_nat _ (by omega)
theorem cronAll (lo hi : Nat) (a b : Value) (w : World) (h1 : lo ≤ hi) (h2 : hi ≤ 60) : Calls Tryz.prog 157 #[.agg #[a, .int .i64 lo, .int .i64 hi, b]] w fun e w' => e = .returned (.int .u64 (G.allN lo hi : Nat)) ∧ Below w.heap.size w w' := by
 have he := J (all_eq h1 h2)
 have l0 : (0 : Int) ≤ (lo : Int) := by omega
 have l1 : (lo : Int) ≤ 60 := by omega
 have l2 : (hi : Int) ≤ 60 := by omega
 go_enter Tryz.func157, Tryz.ntmps157
 go_wp2
 go_quiet (fail)
 go_wp2
 go_ret
 refine ⟨?_, by exact ⟨rfl, rfl, rfl, by simp, fun k hk => Below.heap_alloc w _ k hk⟩⟩
 rw [← he.u]
 first | rfl | (simp; done)
def fieldCells (g : Nat) : Array Value := #[.pointer (some ⟨g, 0, none⟩), .int .i64 0, .int .i64 59, .pointer none,
 .pointer (some ⟨g, 1, none⟩), .int .i64 0, .int .i64 23, .pointer none,
 .pointer (some ⟨g, 2, none⟩), .int .i64 1, .int .i64 31, .pointer (some ⟨g, 5, none⟩),
 .pointer (some ⟨g, 3, none⟩), .int .i64 1, .int .i64 12, .pointer none,
 .pointer (some ⟨g, 4, none⟩), .int .i64 0, .int .i64 6, .pointer (some ⟨g, 6, none⟩)]
def FieldsPost (w0 : World) (g : Nat) (e : Ending) (w' : World) : Prop := ∃ h, e = .returned (.slice (some ⟨h, 0, none⟩) 5 5) ∧ w0.heap.size ≤ h ∧ G.At w' h 212 (fieldCells g) ∧ Below w0.heap.size w0 w'
theorem cronFields (g : Nat) (w : World) (c : Array Value) (hc : G.At w g 59 c) (hsz : c.size = 7) : Calls Tryz.prog 156 #[.pointer (some ⟨g, 0, none⟩)] w (FieldsPost w g) := by
 go_enter Tryz.func156, Tryz.ntmps156
 go_wp2_with fail
 go_region
 all_goals
  go_wp2_with fail
  go_ret
  exact ⟨_, rfl, Nat.le_refl _, (G.At.made w _ _).drew, ((Below.refl _ _).alloc (Nat.le_refl _) _).drew⟩
end Go.Proofs.YtidonhndeohdlaaGreat
namespace G
def clip (n : Int) : Int := if 1000000000000000 < n then 1000000000000000 else if n < -1000000000000000 then -1000000000000000 else n
theorem clip_lo (n : Int) : -1000000000000000 ≤ clip n := by unfold clip; split <;> (try split) <;> omega
theorem clip_hi (n : Int) : clip n ≤ 1000000000000000 := by unfold clip; split <;> (try split) <;> omega
theorem clip_id {n : Int} (h0 : -1000000000000000 ≤ n) (h1 : n ≤ 1000000000000000) : clip n = n := by unfold clip; split <;> (try split) <;> omega
theorem clip_clip (n : Int) : clip (clip n) = clip n := clip_id (clip_lo n) (clip_hi n)
theorem clip_top {n : Int} (h : 1000000000000000 ≤ n) : clip n = 1000000000000000 := by unfold clip; split <;> (try split) <;> omega
theorem clip_bot {n : Int} (h : n ≤ -1000000000000000) : clip n = -1000000000000000 := by unfold clip; split <;> (try split) <;> omega
theorem clip_spec (n : Int) : (n ≤ -1000000000000000 ∧ clip n = -1000000000000000) ∨ (1000000000000000 ≤ n ∧ clip n = 1000000000000000) ∨ (-1000000000000000 ≤ n ∧ n ≤ 1000000000000000 ∧ clip n = n) := by
 unfold clip; split <;> (try split) <;> omega
theorem clip_neg (n : Int) : clip (-n) = -clip n := by have := clip_spec n; have := clip_spec (-n); omega
theorem clip_nonneg {n : Int} (h : 0 ≤ n) : 0 ≤ clip n := by unfold clip; split <;> (try split) <;> omega
def addc (a b : Int) : Int := clip (clip a + clip b)
def subc (a b : Int) : Int := clip (clip a - clip b)
def mulc (a b : Int) : Int := clip (clip a * clip b)
def ceilc (a b : Int) : Int := -((-clip a) / clip b)
def pos (n : Int) : Int := clip (max n 0)
def sharec (a m : Int) : Int := clip (pos a * pos m / 1000)
theorem pos_eq (n : Int) : max (clip n) 0 = pos n := by
 unfold pos; have := clip_spec n; have := clip_spec (max n 0); omega
/-! products -/
theorem le_div {x y : Int} (hy : 0 < y) : x ≤ 1000000000000000 / y ↔ x * y ≤ 1000000000000000 := Int.le_ediv_iff_mul_le hy
theorem mul_in {a b x y : Int} (hx : x = max a (-a)) (hy : y = max b (-b)) (hb : b ≠ 0) (h : x ≤ 1000000000000000 / y) : clip (a * b) = a * b := by
 have hy0 : 0 < y := by omega
 rw [le_div hy0] at h
 have e : (a * b).natAbs = (x * y).natAbs := by
  rw [Int.natAbs_mul, Int.natAbs_mul]
  have h1 : a.natAbs = x.natAbs := by omega
  have h2 : b.natAbs = y.natAbs := by omega
  rw [h1, h2]
 have h0 : 0 ≤ x * y := Int.mul_nonneg (by omega) (by omega)
 apply clip_id <;> omega
theorem mul_out {a b x y : Int} (hx : x = max a (-a)) (hy : y = max b (-b)) (hb : b ≠ 0) (h : ¬ x ≤ 1000000000000000 / y) :
  clip (a * b) = if decide (a < 0) = decide (b < 0) then 1000000000000000 else -1000000000000000 := by
 have hy0 : 0 < y := by omega
 rw [le_div hy0] at h
 by_cases ha : a < 0 <;> by_cases hb' : b < 0 <;> simp only [ha, hb', decide_true, decide_false, if_true, Bool.true_eq_false, Bool.false_eq_true, if_false]
 ·have e : x * y = a * b := by rw [show x = -a by omega, show y = -b by omega]; exact Int.neg_mul_neg a b
  exact clip_top (by omega)
 ·have e : x * y = -(a * b) := by rw [show x = -a by omega, show y = b by omega]; exact Int.neg_mul a b
  exact clip_bot (by omega)
 ·have e : x * y = -(a * b) := by rw [show x = a by omega, show y = -b by omega]; exact Int.mul_neg a b
  exact clip_bot (by omega)
 have e : x * y = a * b := by rw [show x = a by omega, show y = b by omega]
 exact clip_top (by omega)
theorem mulc_zero_left {a b : Int} (h : clip a = 0) : mulc a b = 0 := by unfold mulc; rw [h, Int.zero_mul]; rfl
theorem mulc_zero_right {a b : Int} (h : clip b = 0) : mulc a b = 0 := by unfold mulc; rw [h, Int.mul_zero]; rfl
/-! ceil -/
theorem clip_one {b : Int} (h : 1 ≤ b) : 1 ≤ clip b := by unfold clip; split <;> (try split) <;> omega
theorem ceil_euclid (a : Int) {b : Int} (h : 1 ≤ b) : clip a ≤ ceilc a b * clip b ∧ (ceilc a b - 1) * clip b < clip a := by
 have hb := clip_one h
 unfold ceilc
 generalize clip a = x
 generalize clip b = y at hb
 have h1 := Int.emod_nonneg (-x) (show y ≠ 0 by omega)
 have h2 := Int.emod_lt_of_pos (-x) (show 0 < y by omega)
 have h3 := Int.mul_ediv_add_emod (-x) y
 generalize -x / y = q at *
 have e1 : -q * y = -(y * q) := by rw [Int.neg_mul, Int.mul_comm]
 have e2 : (-q - 1) * y = -(y * q) - y := by rw [Int.sub_mul, e1]; omega
 rw [e1, e2]; omega
theorem ceil_lo (a : Int) {b : Int} (h : 1 ≤ b) : -1000000000000000 ≤ ceilc a b := by
 have h1 := ceil_euclid a h; have hb := clip_one h; have := clip_lo a
 rcases Int.lt_or_le (ceilc a b) (-1000000000000000) with hc | hc
 ·have : ceilc a b * clip b ≤ ceilc a b * 1 := Int.mul_le_mul_of_nonpos_left (by omega) hb
  omega
 exact hc
theorem ceil_hi (a : Int) {b : Int} (h : 1 ≤ b) : ceilc a b ≤ 1000000000000000 := by
 have h1 := ceil_euclid a h; have hb := clip_one h; have := clip_hi a
 rcases Int.lt_or_le 1000000000000000 (ceilc a b) with hc | hc
 ·have : (ceilc a b - 1) * 1 ≤ (ceilc a b - 1) * clip b := Int.mul_le_mul_of_nonneg_left hb (by omega)
  omega
 exact hc
theorem lt_of_mul {p q y : Int} (hy : 0 < y) (h : p * y < q * y) : p < q := Int.lt_of_mul_lt_mul_right h (by omega)
theorem ceil_tdiv (a : Int) {b : Int} (h : 1 ≤ b) : ceilc a b - 1 ≤ (clip a).tdiv (clip b) ∧ (clip a).tdiv (clip b) ≤ ceilc a b := by
 have hb := clip_one h
 obtain ⟨h1, h2⟩ := ceil_euclid a h
 generalize ceilc a b = c at *
 generalize clip a = x at *
 generalize clip b = y at *
 have h3 := Int.mul_tdiv_add_tmod x y
 have h4 := Int.tmod_lt_of_pos x (show 0 < y by omega)
 have h5 : -y < x.tmod y := by
  have := Int.tmod_lt_of_pos (-x) (show 0 < y by omega)
  rw [Int.neg_tmod] at this; omega
 generalize x.tdiv y = d at *
 generalize x.tmod y = r at *
 rw [Int.mul_comm] at h3
 have hm : (c - 1) * y = c * y - y := by rw [Int.sub_mul]; omega
 constructor
 ·have : (c - 1) * y < (d + 1) * y := by rw [Int.add_mul]; omega
  have := lt_of_mul (by omega) this
  omega
 have : d * y < (c + 1) * y := by rw [Int.add_mul]; omega
 have := lt_of_mul (by omega) this
 omega
theorem ceil_near (a : Int) {b n : Int} (h : 1 ≤ b) (h1 : ceilc a b - 1 ≤ n) (h2 : n ≤ ceilc a b) :
  -2000000000000000 ≤ n * clip b ∧ n * clip b ≤ 2000000000000000 ∧ (n * clip b < clip a → n < ceilc a b) ∧ (clip a ≤ n * clip b → n = ceilc a b) := by
 have hb := clip_one h; have hb' := clip_hi b; have ha := clip_hi a; have ha' := clip_lo a
 obtain ⟨e1, e2⟩ := ceil_euclid a h
 have hm : (ceilc a b - 1) * clip b = ceilc a b * clip b - clip b := by rw [Int.sub_mul]; omega
 obtain rfl | rfl : n = ceilc a b - 1 ∨ n = ceilc a b := by omega
 ·refine ⟨by omega, by omega, by omega, by omega⟩
 refine ⟨by omega, by omega, by omega, fun _ => rfl⟩
/-! share -/
theorem share_split (a m : Int) :
  a * m / 1000 = a / 1000 * m + a % 1000 * (m / 1000) + a % 1000 * (m % 1000) / 1000 := by
 have e1 := Int.mul_ediv_add_emod a 1000
 have e2 := Int.mul_ediv_add_emod m 1000
 generalize a / 1000 = n at *
 generalize a % 1000 = r at *
 generalize hk : m / 1000 = k at *
 generalize hl : m % 1000 = l at *
 have : a * m = r * l + (n * m + r * k) * 1000 := by
  rw [← e1, Int.add_mul]
  have : r * m = r * l + r * k * 1000 := by rw [← e2, Int.mul_add, Int.mul_left_comm, Int.mul_comm 1000]; omega
  rw [this, Int.mul_assoc, Int.mul_comm 1000, Int.add_mul]; omega
 rw [this, Int.add_mul_ediv_right _ _ (by omega)]
 omega
theorem clip_add {x y : Int} (hx : 0 ≤ x) (hy : 0 ≤ y) : clip (clip x + y) = clip (x + y) := by
 have := clip_spec x; have := clip_spec (clip x + y); have := clip_spec (x + y); omega
theorem share_eq (a m : Int) (ha : 0 ≤ a) (hm : 0 ≤ m) (ha' : a ≤ 1000000000000000) (hm' : m ≤ 1000000000000000) :
  clip (clip (mulc (a / 1000) m + mulc (a % 1000) (m / 1000)) + a % 1000 * (m % 1000) / 1000) = clip (a * m / 1000) := by
 rw [share_split a m]
 have h1 : 0 ≤ a / 1000 * m := Int.mul_nonneg (by omega) hm
 have h2 : 0 ≤ a % 1000 * (m / 1000) := Int.mul_nonneg (by omega) (by omega)
 have h3 : 0 ≤ a % 1000 * (m % 1000) := Int.mul_nonneg (by omega) (by omega)
 unfold mulc
 rw [clip_id (n := a / 1000) (by omega) (by omega), clip_id (n := m) (by omega) (by omega), clip_id (n := a % 1000) (by omega) (by omega), clip_id (n := m / 1000) (by omega) (by omega)]
 have e : clip (clip (a / 1000 * m) + clip (a % 1000 * (m / 1000))) = clip (a / 1000 * m + a % 1000 * (m / 1000)) := by
  rw [clip_add h1 (clip_nonneg h2), Int.add_comm, clip_add h2 h1, Int.add_comm]
 rw [e, clip_add (by omega) (by omega)]
/-! the reference's product, digit by digit: behind the digits that p leaves -/
theorem digit_step {a q n : Int} (ha : 0 ≤ a) (hq : 0 ≤ q) (hn : n = clip (a * q)) : clip (n * 10) = clip (a * (q * 10)) := by
 have h0 : 0 ≤ a * q := Int.mul_nonneg ha hq
 rw [hn, ← Int.mul_assoc]
 generalize a * q = z at *
 have := clip_spec z; have := clip_spec (clip z * 10); have := clip_spec (z * 10); omega
theorem digit_add {a q n : Int} (ha : 0 ≤ a) (hq : 0 ≤ q) (hn : n = clip (a * q)) : clip (n + a) = clip (a * (q + 1)) := by
 have h0 : 0 ≤ a * q := Int.mul_nonneg ha hq
 rw [hn, clip_add h0 ha, Int.mul_add, Int.mul_one]
def tens (p : Int) : Prop := p = 1000000000000000 ∨ p = 100000000000000 ∨ p = 10000000000000 ∨ p = 1000000000000 ∨ p = 100000000000 ∨ p = 10000000000 ∨ p = 1000000000 ∨ p = 100000000 ∨ p = 10000000 ∨ p = 1000000 ∨ p = 100000 ∨ p = 10000 ∨ p = 1000 ∨ p = 100 ∨ p = 10 ∨ p = 1
theorem tens_step {p : Int} (h : tens p) : (p = 1) ∨ (tens (p / 10) ∧ p / 10 * 10 = p) := by
 unfold tens at *
 rcases h with rfl | rfl | rfl | rfl | rfl | rfl | rfl | rfl | rfl | rfl | rfl | rfl | rfl | rfl | rfl | rfl <;> simp
theorem tens_top : tens 1000000000000000 := .inl rfl
theorem tens_bd {p : Int} (h : tens p) : 1 ≤ p ∧ p ≤ 1000000000000000 := by unfold tens at h; omega
def mulAt (A B p n : Int) : Prop := (tens p ∧ n = clip (A * (B / p / 10))) ∨ (p = 0 ∧ n = clip (A * B))
theorem mulAt_start (A : Int) {B : Int} (h0 : 0 ≤ B) (h1 : B ≤ 1000000000000000) : mulAt A B 1000000000000000 0 := by
 refine .inl ⟨tens_top, ?_⟩
 rw [show B / 1000000000000000 / 10 = 0 by omega, Int.mul_zero]; rfl
theorem mulAt_next {A B p n : Int} (hp : tens p) (hn : n = clip (A * (B / p))) : mulAt A B (p / 10) n := by
 rcases tens_step hp with rfl | ⟨h1, h2⟩
 ·refine .inr ⟨rfl, ?_⟩
  rw [hn, Int.ediv_one]
 refine .inl ⟨h1, ?_⟩
 rw [hn, Int.ediv_ediv_of_nonneg (show 0 ≤ p / 10 by have := tens_bd h1; omega), h2]
theorem mulAt_bd {A B p n : Int} (h : mulAt A B p n) : -1000000000000000 ≤ n ∧ n ≤ 1000000000000000 := by
 rcases h with ⟨_, rfl⟩ | ⟨_, rfl⟩ <;> exact ⟨clip_lo _, clip_hi _⟩
theorem sign_cases (x : Int) : (x < 0 ∧ ∃ A, -x = A ∧ 0 ≤ A) ∨ (¬ x < 0 ∧ ∃ A, x = A ∧ 0 ≤ A) := by
 by_cases h : x < 0
 ·exact .inl ⟨h, _, rfl, by omega⟩
 exact .inr ⟨h, _, rfl, by omega⟩
end G
namespace Go.Proofs.YtidonhndeohdlaaGreat
open Go.RowKit
theorem numClip (n : Int) (w : World) : Calls Tryz.prog 114 #[.int .i64 n] w fun e w' => e = .returned (.int .i64 (G.clip n)) ∧ w = w' := by
 have k := G.clip_spec n
 by_cases h1 : n < -1000000000000000
 ·go_enter Tryz.func114, Tryz.ntmps114
  go_wp2
  go_ret
  exact ⟨ret_int (by omega), rfl⟩
 by_cases h2 : 1000000000000000 < n
 ·go_enter Tryz.func114, Tryz.ntmps114
  go_wp2
  go_ret
  exact ⟨ret_int (by omega), rfl⟩
 go_enter Tryz.func114, Tryz.ntmps114
 go_wp2
 go_ret
 exact ⟨ret_int (by omega), rfl⟩
theorem refClip (n : Int) (w : World) : Calls Tryz.prog 85 #[.int .i64 n] w fun e w' => e = .returned (.int .i64 (G.clip n)) ∧ w = w' := by
 have k := G.clip_spec n
 by_cases h1 : n < -1000000000000000
 ·go_enter Tryz.func85, Tryz.ntmps85
  go_wp2
  go_ret
  exact ⟨ret_int (by omega), rfl⟩
 by_cases h2 : 1000000000000000 < n
 ·go_enter Tryz.func85, Tryz.ntmps85
  go_wp2
  go_ret
  exact ⟨ret_int (by omega), rfl⟩
 go_enter Tryz.func85, Tryz.ntmps85
 go_wp2
 go_ret
 exact ⟨ret_int (by omega), rfl⟩
theorem numAdd (a b : Int) (w : World) : Calls Tryz.prog 66 #[.int .i64 a, .int .i64 b] w fun e w' => e = .returned (.int .i64 (G.addc a b)) ∧ w = w' := by
 have a0 := G.clip_lo a; have a1 := G.clip_hi a; have b0 := G.clip_lo b; have b1 := G.clip_hi b
 go_enter Tryz.func66, Tryz.ntmps66
 go_wp2_with (go_at_call 114; refine (numClip _ _).mono ?_; rintro e w' ⟨rfl, rfl⟩)
 go_ret
 exact ⟨rfl, rfl⟩
theorem numSub (a b : Int) (w : World) : Calls Tryz.prog 162 #[.int .i64 a, .int .i64 b] w fun e w' => e = .returned (.int .i64 (G.subc a b)) ∧ w = w' := by
 have a0 := G.clip_lo a; have a1 := G.clip_hi a; have b0 := G.clip_lo b; have b1 := G.clip_hi b
 go_enter Tryz.func162, Tryz.ntmps162
 go_wp2_with (go_at_call 114; refine (numClip _ _).mono ?_; rintro e w' ⟨rfl, rfl⟩)
 go_ret
 exact ⟨rfl, rfl⟩
theorem wrap_small {n : Int} (h0 : -1000000000000000 ≤ n) (h1 : n ≤ 1000000000000000) : wrap64 n = n := IntWalk.wrap64_in n (by omega)
theorem quo_neg {B : Int} (h : B < 0) : wrap64 (-Int.tdiv 1000000000000000 B) = 1000000000000000 / -B := by
 rw [← Int.tdiv_neg, Int.tdiv_eq_ediv_of_nonneg (by omega)]
 exact wrap_small (by have := Int.ediv_nonneg (a := 1000000000000000) (b := -B) (by omega) (by omega); omega) (Int.ediv_le_self _ (by omega))
theorem mul_close_in {a b x y : Int} (hx : x = max a (-a)) (hy : y = max b (-b)) (hb : b ≠ 0) (h : x ≤ 1000000000000000 / y) : wrap64 (a * b) = G.clip (a * b) := by
 have e := G.mul_in hx hy hb h
 have h0 := G.clip_lo (a * b); have h1 := G.clip_hi (a * b)
 rw [e] at h0 h1 ⊢
 exact wrap_small h0 h1
theorem numMul (a b : Int) (w : World) : Calls Tryz.prog 161 #[.int .i64 a, .int .i64 b] w fun e w' => e = .returned (.int .i64 (G.mulc a b)) ∧ w = w' := by
 have a0 := G.clip_lo a; have a1 := G.clip_hi a; have b0 := G.clip_lo b; have b1 := G.clip_hi b
 by_cases hA : G.clip a = 0
 ·have hz : Hid (G.mulc a b = 0) := G.mulc_zero_left hA
  go_enter Tryz.func161, Tryz.ntmps161
  go_wp2_with (go_at_call 114; refine (numClip _ _).mono ?_; rintro e w' ⟨rfl, rfl⟩)
  all_goals
   go_ret
   exact ⟨ret_int hz.u.symm, rfl⟩
 have hA' : (G.clip a == 0) = false := by simp [hA]
 by_cases hB : G.clip b = 0
 ·have hz : Hid (G.mulc a b = 0) := G.mulc_zero_right hB
  clear hA
  go_enter Tryz.func161, Tryz.ntmps161
  go_wp2_with (go_at_call 114; refine (numClip _ _).mono ?_; rintro e w' ⟨rfl, rfl⟩)
  all_goals
   go_ret
   exact ⟨ret_int hz.u.symm, rfl⟩
 have hB' : (G.clip b == 0) = false := by simp [hB]
 have hmul : Hid (G.mulc a b = G.clip (G.clip a * G.clip b)) := rfl
 rcases Int.lt_or_lt_of_ne hA with ha | ha <;> rcases Int.lt_or_lt_of_ne hB with hb | hb
 ·have ki := fun h => @mul_close_in (G.clip a) (G.clip b) (-G.clip a) (-G.clip b) (by omega) (by omega) hB h
  have ko := fun h => @G.mul_out (G.clip a) (G.clip b) (-G.clip a) (-G.clip b) (by omega) (by omega) hB h
  have KI := J ki; have KO := J ko; have hq := J (quo_neg hb)
  clear hA hB ki ko
  go_enter Tryz.func161, Tryz.ntmps161
  go_wp2_with (go_at_call 114; refine (numClip _ _).mono ?_; rintro e w' ⟨rfl, rfl⟩)
  all_goals
   go_ret
   refine ⟨ret_int ?_, rfl⟩
   rw [hmul.u]
   first
    | exact KI.u (by rw [← hq.u]; assumption)
    | (rw [KO.u (by rw [← hq.u]; omega)]; simp_all; done)
    | (rw [KO.u (by rw [← hq.u]; omega)]; rw [if_pos (by simp; omega)])
    | (rw [KO.u (by rw [← hq.u]; omega)]; rw [if_neg (by simp; omega)])
 ·have ki := fun h => @mul_close_in (G.clip a) (G.clip b) (-G.clip a) (G.clip b) (by omega) (by omega) hB h
  have ko := fun h => @G.mul_out (G.clip a) (G.clip b) (-G.clip a) (G.clip b) (by omega) (by omega) hB h
  have KI := J ki; have KO := J ko; skip
  clear hA hB ki ko
  go_enter Tryz.func161, Tryz.ntmps161
  go_wp2_with (go_at_call 114; refine (numClip _ _).mono ?_; rintro e w' ⟨rfl, rfl⟩)
  all_goals
   go_ret
   refine ⟨ret_int ?_, rfl⟩
   rw [hmul.u]
   first
    | exact KI.u (by skip; assumption)
    | (rw [KO.u (by skip; omega)]; simp_all; done)
    | (rw [KO.u (by skip; omega)]; rw [if_pos (by simp; omega)])
    | (rw [KO.u (by skip; omega)]; rw [if_neg (by simp; omega)])
 ·have ki := fun h => @mul_close_in (G.clip a) (G.clip b) (G.clip a) (-G.clip b) (by omega) (by omega) hB h
  have ko := fun h => @G.mul_out (G.clip a) (G.clip b) (G.clip a) (-G.clip b) (by omega) (by omega) hB h
  have KI := J ki; have KO := J ko; have hq := J (quo_neg hb)
  clear hA hB ki ko
  go_enter Tryz.func161, Tryz.ntmps161
  go_wp2_with (go_at_call 114; refine (numClip _ _).mono ?_; rintro e w' ⟨rfl, rfl⟩)
  all_goals
   go_ret
   refine ⟨ret_int ?_, rfl⟩
   rw [hmul.u]
   first
    | exact KI.u (by rw [← hq.u]; assumption)
    | (rw [KO.u (by rw [← hq.u]; omega)]; simp_all; done)
    | (rw [KO.u (by rw [← hq.u]; omega)]; rw [if_pos (by simp; omega)])
    | (rw [KO.u (by rw [← hq.u]; omega)]; rw [if_neg (by simp; omega)])
 have ki := fun h => @mul_close_in (G.clip a) (G.clip b) (G.clip a) (G.clip b) (by omega) (by omega) hB h
 have ko := fun h => @G.mul_out (G.clip a) (G.clip b) (G.clip a) (G.clip b) (by omega) (by omega) hB h
 have KI := J ki; have KO := J ko; skip
 clear hA hB ki ko
 go_enter Tryz.func161, Tryz.ntmps161
 go_wp2_with (go_at_call 114; refine (numClip _ _).mono ?_; rintro e w' ⟨rfl, rfl⟩)
 all_goals
  go_ret
  refine ⟨ret_int ?_, rfl⟩
  rw [hmul.u]
  first
   | exact KI.u (by skip; assumption)
   | (rw [KO.u (by skip; omega)]; simp_all; done)
   | (rw [KO.u (by skip; omega)]; rw [if_pos (by simp; omega)])
   | (rw [KO.u (by skip; omega)]; rw [if_neg (by simp; omega)])
theorem tdiv_floor (a b : Int) (hb : 0 < b) : (if a.tmod b < 0 then a.tdiv b - 1 else a.tdiv b) = a / b := by
 rw [Int.tdiv_eq_ediv, Int.tmod_eq_emod]
 have h1 := Int.emod_nonneg a (show b ≠ 0 by omega)
 have h2 := Int.emod_lt_of_pos a hb
 by_cases h : 0 ≤ a ∨ b ∣ a
 ·rw [if_pos h, if_pos h, if_neg (by omega)]; omega
 rw [if_neg h, if_neg h, if_pos (by omega), Int.sign_eq_one_of_pos hb]; omega
theorem tdiv_bd (a b : Int) (hb : 0 < b) (h0 : -4000000000000000000 ≤ a) (h1 : a ≤ 4000000000000000000) : -4000000000000000000 ≤ a.tdiv b ∧ a.tdiv b ≤ 4000000000000000000 := by
 rw [tdiv_eq_if]
 split
 ·have := IntWalk.tdiv_le a b (by omega) (by omega); omega
 have := IntWalk.tdiv_le (-a) b (by omega) (by omega); omega
theorem numFloor (a b : Int) (w : World) (hb : 1 ≤ b) (h0 : -4000000000000000000 ≤ a) (h1 : a ≤ 4000000000000000000) : Calls Tryz.prog 170 #[.int .i64 a, .int .i64 b] w fun e w' => e = .returned (.int .i64 (a / b)) ∧ w = w' := by
 have h := J (tdiv_floor a b (by omega))
 have hd := tdiv_bd a b (by omega) h0 h1
 obtain ⟨d0, d1⟩ := hd
 by_cases hm : a.tmod b < 0
 ·go_enter Tryz.func170, Tryz.ntmps170
  go_wp2
  go_ret
  exact ⟨ret_int (by have := h.u; rw [if_pos hm] at this; exact this), rfl⟩
 go_enter Tryz.func170, Tryz.ntmps170
 go_wp2
 go_ret
 exact ⟨ret_int (by have := h.u; rw [if_neg (by omega)] at this; exact this), rfl⟩
theorem numCeil_yes (a b : Int) (w : World) (h : 1 ≤ b) : Calls Tryz.prog 160 #[.int .i64 a, .int .i64 b] w fun e w' => e = .returned (.tuple #[.int .i64 (G.ceilc a b), .int .i64 0]) ∧ w = w' := by
 have a0 := G.clip_lo a; have a1 := G.clip_hi a; have b0 := G.clip_one h; have b1 := G.clip_hi b
 have c0 := G.ceil_lo a h; have c1 := G.ceil_hi a h
 unfold G.ceilc at c0 c1
 go_enter Tryz.func160, Tryz.ntmps160
 go_wp2_with (first | (go_at_call 114; refine (numClip _ _).mono ?_; rintro e w' ⟨rfl, rfl⟩) | (go_at_call 170; refine (numFloor _ _ _ (by omega) (by omega) (by omega)).mono ?_; rintro e w' ⟨rfl, rfl⟩))
 go_ret2
 exact ⟨rfl, rfl⟩
theorem numShare (a m : Int) (w : World) : Calls Tryz.prog 163 #[.int .i64 a, .int .i64 m] w fun e w' => e = .returned (.int .i64 (G.sharec a m)) ∧ w = w' := by
 obtain ⟨x, hx⟩ : ∃ x, (if a < 0 then 0 else a) = x := ⟨_, rfl⟩
 obtain ⟨y, hy⟩ : ∃ y, (if m < 0 then 0 else m) = y := ⟨_, rfl⟩
 have ex : G.pos a = G.clip x := by unfold G.pos; congr 1; omega
 have ey : G.pos m = G.clip y := by unfold G.pos; congr 1; omega
 have x0 : 0 ≤ G.clip x := G.clip_nonneg (by omega)
 have y0 : 0 ≤ G.clip y := G.clip_nonneg (by omega)
 have x1 := G.clip_hi x; have y1 := G.clip_hi y
 have hs : Hid (G.sharec a m = G.addc (G.addc (G.mulc (G.clip x / 1000) (G.clip y)) (G.mulc (G.clip x % 1000) (G.clip y / 1000))) (G.clip x % 1000 * (G.clip y % 1000) / 1000)) := by
  unfold G.sharec Hid
  rw [ex, ey, ← G.share_eq _ _ x0 y0 x1 y1]
  unfold G.addc
  rw [G.clip_clip]
  have e1 : G.clip (G.clip x % 1000 * (G.clip y % 1000) / 1000) = G.clip x % 1000 * (G.clip y % 1000) / 1000 := by
   have h0 : 0 ≤ G.clip x % 1000 * (G.clip y % 1000) := Int.mul_nonneg (by omega) (by omega)
   have h1 : G.clip x % 1000 * (G.clip y % 1000) ≤ 1000 * 1000 := Int.mul_le_mul (by omega) (by omega) (by omega) (by omega)
   exact G.clip_id (by omega) (by omega)
  rw [e1]
  unfold G.mulc
  simp only [G.clip_clip]
 have h0 : 0 ≤ G.clip x % 1000 * (G.clip y % 1000) := Int.mul_nonneg (by omega) (by omega)
 have h1 : G.clip x % 1000 * (G.clip y % 1000) ≤ 1000 * 1000 := Int.mul_le_mul (by omega) (by omega) (by omega) (by omega)
 clear ex ey
 go_enter Tryz.func163, Tryz.ntmps163
 go_wp2_with (first | (go_at_call 114; refine (numClip _ _).mono ?_; rintro e w' ⟨rfl, rfl⟩) | (go_at_call 161; refine (numMul _ _ _).mono ?_; rintro e w' ⟨rfl, rfl⟩) | (go_at_call 66; refine (numAdd _ _ _).mono ?_; rintro e w' ⟨rfl, rfl⟩))
 go_ret
 exact ⟨ret_int hs.u.symm, rfl⟩
end Go.Proofs.YtidonhndeohdlaaGreat
namespace G
def years (y : Int) : Int := 365 * y + (y + 3) / 4 - (y + 99) / 100 + (y + 399) / 400
def leap (y : Int) : Prop := y % 400 = 0 ∨ (y % 4 = 0 ∧ y % 100 ≠ 0)
instance (y : Int) : Decidable (leap y) := by unfold leap; infer_instance
def long (y m : Int) : Int := if m = 2 then (if leap y then 29 else 28) else if m = 4 ∨ m = 6 ∨ m = 9 ∨ m = 11 then 30 else 31
def cum (y m : Int) : Int := (367 * m - 362) / 12 + (if m ≤ 2 then 0 else if leap y then -1 else -2)
def dayno (y m d : Int) : Int := years y - years 1970 + d - 1 + cum y m
def valid (y m d : Int) : Prop := 1 ≤ m ∧ m ≤ 12 ∧ 1 ≤ d ∧ d ≤ long y m
theorem twelve {m : Int} (h1 : 1 ≤ m) (h2 : m ≤ 12) : m = 1 ∨ m = 2 ∨ m = 3 ∨ m = 4 ∨ m = 5 ∨ m = 6 ∨ m = 7 ∨ m = 8 ∨ m = 9 ∨ m = 10 ∨ m = 11 ∨ m = 12 := by omega
theorem leap_iff (y : Int) : leap y ↔ years (y + 1) = years y + 366 := by unfold leap years; omega
theorem not_leap_iff (y : Int) : ¬ leap y ↔ years (y + 1) = years y + 365 := by unfold leap years; omega
theorem years_succ (y : Int) : years (y + 1) = years y + 365 + (if leap y then 1 else 0) := by
 split <;> rename_i h
 ·have := (leap_iff y).1 h; omega
 have := (not_leap_iff y).1 h; omega
theorem years_1970 : years 1970 = 719528 := by decide
theorem cum_one (y : Int) : cum y 1 = 0 := by unfold cum; rfl
theorem cum_succ (y m : Int) (h1 : 1 ≤ m) (h2 : m < 12) : cum y (m + 1) = cum y m + long y m := by
 unfold cum long
 by_cases hl : leap y <;> rcases twelve h1 (by omega) with rfl | rfl | rfl | rfl | rfl | rfl | rfl | rfl | rfl | rfl | rfl | rfl <;> simp [hl] <;> omega
theorem cum_year (y : Int) : cum y 12 + long y 12 = 365 + (if leap y then 1 else 0) := by
 unfold cum long; by_cases hl : leap y <;> simp [hl]
theorem long_lo (y m : Int) : 28 ≤ long y m := by unfold long; split <;> (try split) <;> omega
theorem long_hi (y m : Int) : long y m ≤ 31 := by unfold long; split <;> (try split) <;> omega
theorem cum_bd (y m : Int) (h1 : 1 ≤ m) (h2 : m ≤ 12) : 0 ≤ cum y m ∧ cum y m + long y m ≤ 365 + (if leap y then 1 else 0) := by
 unfold cum long
 by_cases hl : leap y <;> rcases twelve h1 h2 with rfl | rfl | rfl | rfl | rfl | rfl | rfl | rfl | rfl | rfl | rfl | rfl <;> simp [hl]
theorem cum_le (y a b : Int) (h1 : 1 ≤ a) (h : a < b) (h2 : b ≤ 12) : cum y a + long y a ≤ cum y b := by
 unfold cum long
 by_cases hl : leap y <;> rcases twelve h1 (show a ≤ 12 by omega) with rfl | rfl | rfl | rfl | rfl | rfl | rfl | rfl | rfl | rfl | rfl | rfl <;> simp [hl] <;> split <;> omega
theorem years_mono {a b : Int} (h : a ≤ b) : years a ≤ years b := by unfold years; omega
theorem years_le {a b : Int} (h : a < b) : years a + 365 + (if leap a then 1 else 0) ≤ years b := by
 have h1 := years_succ a; have h2 := years_mono (show a + 1 ≤ b by omega); omega
theorem dayno_inj {y m d y' m' d' : Int} (h : valid y m d) (h' : valid y' m' d') (he : dayno y m d = dayno y' m' d') : y = y' ∧ m = m' ∧ d = d' := by
 obtain ⟨a1, a2, a3, a4⟩ := h
 obtain ⟨b1, b2, b3, b4⟩ := h'
 unfold dayno at he
 have c1 := cum_bd y m a1 a2
 have c2 := cum_bd y' m' b1 b2
 have hy : y = y' := by
  rcases Int.lt_trichotomy y y' with hl | hl | hl
  ·have := years_le hl; omega
  ·exact hl
  have := years_le hl; omega
 subst hy
 have hm : m = m' := by
  rcases Int.lt_trichotomy m m' with hl | hl | hl
  ·have := cum_le y m m' a1 hl b2; omega
  ·exact hl
  have := cum_le y m' m b1 hl a2; omega
 subst hm
 exact ⟨rfl, rfl, by omega⟩
/-! the date, by eras of 400 years -/
def eo (n : Int) : Int := (n + 719468) % 146097
def ye (n : Int) : Int := (eo n - eo n / 1460 + eo n / 36524 - eo n / 146096) / 365
def dd (n : Int) : Int := eo n - (365 * ye n + ye n / 4 - ye n / 100)
def mp (n : Int) : Int := (5 * dd n + 2) / 153
def dyOf (n : Int) : Int := dd n - (153 * mp n + 2) / 5 + 1
def yr0 (n : Int) : Int := ye n + (n + 719468) / 146097 * 400
def yrOf (n : Int) : Int := if 12 < mp n + 3 then yr0 n + 1 else yr0 n
def moOf (n : Int) : Int := if 12 < mp n + 3 then mp n - 9 else mp n + 3
theorem core2 (c r q2 v s : Nat) (hc : c ≤ 3) (hr : r < 36524) (hq : q2 = (24 * c + r) / 1460) (hs : s < 365) (e : 365 * v + s + q2 = r) :
  v ≤ 99 ∧ 365 * v + v / 4 ≤ r ∧ r - (365 * v + v / 4) ≤ 365 ∧ (r - (365 * v + v / 4) = 365 → v % 4 = 3 ∧ (v = 99 → c = 3)) := by
 obtain rfl | rfl | rfl | rfl : c = 0 ∨ c = 1 ∨ c = 2 ∨ c = 3 := by omega
 all_goals omega
theorem era_core (o : Nat) (h : o < 146097) :
  (o - o / 1460 + o / 36524 - o / 146096) / 365 ≤ 399 ∧
  365 * ((o - o / 1460 + o / 36524 - o / 146096) / 365) + (o - o / 1460 + o / 36524 - o / 146096) / 365 / 4 - (o - o / 1460 + o / 36524 - o / 146096) / 365 / 100 ≤ o ∧
  o - (365 * ((o - o / 1460 + o / 36524 - o / 146096) / 365) + (o - o / 1460 + o / 36524 - o / 146096) / 365 / 4 - (o - o / 1460 + o / 36524 - o / 146096) / 365 / 100) ≤ 365 ∧
  (o - (365 * ((o - o / 1460 + o / 36524 - o / 146096) / 365) + (o - o / 1460 + o / 36524 - o / 146096) / 365 / 4 - (o - o / 1460 + o / 36524 - o / 146096) / 365 / 100) = 365 →
   (((o - o / 1460 + o / 36524 - o / 146096) / 365 + 1) % 4 = 0 ∧ (((o - o / 1460 + o / 36524 - o / 146096) / 365 + 1) % 100 ≠ 0 ∨ ((o - o / 1460 + o / 36524 - o / 146096) / 365 + 1) % 400 = 0))) := by
 by_cases h4 : o = 146096
 ·subst h4; decide
 obtain ⟨c, r, hc, hr, rfl⟩ : ∃ c r, c ≤ 3 ∧ r < 36524 ∧ o = 36524 * c + r := ⟨o / 36524, o % 36524, by omega, by omega, by omega⟩
 have e1 : (36524 * c + r) / 36524 = c := by omega
 have e2 : (36524 * c + r) / 146096 = 0 := by omega
 have e3 : (36524 * c + r) / 1460 = 25 * c + (24 * c + r) / 1460 := by omega
 rw [e1, e2, e3]
 have e4 : 36524 * c + r - (25 * c + (24 * c + r) / 1460) + c - 0 = 36500 * c + (r - (24 * c + r) / 1460) := by omega
 have e5 : (36500 * c + (r - (24 * c + r) / 1460)) / 365 = 100 * c + (r - (24 * c + r) / 1460) / 365 := by omega
 rw [e4, e5]
 have k := core2 c r ((24 * c + r) / 1460) ((r - (24 * c + r) / 1460) / 365) ((r - (24 * c + r) / 1460) % 365) hc hr rfl (by omega) (by omega)
 generalize (r - (24 * c + r) / 1460) / 365 = v at *
 clear e1 e2 e3 e4 e5
 omega
theorem era_int (n : Int) : 0 ≤ ye n ∧ ye n ≤ 399 ∧ 0 ≤ dd n ∧ dd n ≤ 365 ∧ (dd n = 365 → leap (ye n + 1)) ∧ eo n = 365 * ye n + ye n / 4 - ye n / 100 + dd n := by
 have h0 : 0 ≤ eo n := by unfold eo; omega
 have h1 : eo n < 146097 := by unfold eo; omega
 have k := era_core (eo n).toNat (by omega)
 have hy : ye n = ((((eo n).toNat - (eo n).toNat / 1460 + (eo n).toNat / 36524 - (eo n).toNat / 146096) / 365 : Nat) : Int) := by unfold ye; omega
 have hd : dd n = eo n - (365 * ye n + ye n / 4 - ye n / 100) := rfl
 generalize ((eo n).toNat - (eo n).toNat / 1460 + (eo n).toNat / 36524 - (eo n).toNat / 146096) / 365 = v at *
 obtain ⟨k1, k2, k3, k4⟩ := k
 generalize ye n = y at *
 generalize dd n = d at *
 subst hy
 refine ⟨by omega, by omega, by omega, by omega, ?_, by omega⟩
 intro h365
 have := k4 (by omega)
 unfold leap
 omega
theorem years_era (y e : Int) : years (y + e * 400) = years y + 146097 * e := by unfold years; omega
theorem years_next (y : Int) (h0 : 0 ≤ y) (h1 : y ≤ 399) : years (y + 1) = 365 * y + y / 4 - y / 100 + 366 := by unfold years; omega
theorem mp_bd (n : Int) : 0 ≤ mp n ∧ mp n ≤ 11 := by have := era_int n; unfold mp; omega
theorem cum_mar (y m : Int) (h : 3 ≤ m) : years y + cum y m = years (y + 1) - 367 + (367 * m - 362) / 12 := by
 have := years_succ y
 unfold cum
 rw [if_neg (by omega)]
 by_cases hl : leap y
 ·rw [if_pos hl] at this ⊢; omega
 rw [if_neg hl] at this ⊢; omega
theorem date_dayno (n : Int) : dayno (yrOf n) (moOf n) (dyOf n) = n := by
 obtain ⟨h1, h2, h3, h4, h5, h6⟩ := era_int n
 obtain ⟨m1, m2⟩ := mp_bd n
 have hm : mp n = (5 * dd n + 2) / 153 := rfl
 have he : n + 719468 = 146097 * ((n + 719468) / 146097) + eo n := by unfold eo; omega
 have hn := years_next (ye n) h1 h2
 unfold dayno yrOf moOf dyOf yr0
 rw [years_1970]
 generalize (n + 719468) / 146097 = E at *
 by_cases hc : 12 < mp n + 3
 ·rw [if_pos hc, if_pos hc, show ye n + E * 400 + 1 = (ye n + 1) + E * 400 by omega, years_era]
  unfold cum
  rw [if_pos (by omega)]
  generalize mp n = M at *
  generalize dd n = D at *
  clear h5
  omega
 rw [if_neg hc, if_neg hc]
 have k := cum_mar (ye n + E * 400) (mp n + 3) (by omega)
 rw [show ye n + E * 400 + 1 = (ye n + 1) + E * 400 by omega, years_era (ye n + 1)] at k
 generalize cum (ye n + E * 400) (mp n + 3) = C at *
 generalize years (ye n + E * 400) = Z at *
 generalize years (ye n + 1) = Z1 at *
 generalize mp n = M at *
 generalize dd n = D at *
 clear h5
 obtain rfl | rfl | rfl | rfl | rfl | rfl | rfl | rfl | rfl | rfl : M = 0 ∨ M = 1 ∨ M = 2 ∨ M = 3 ∨ M = 4 ∨ M = 5 ∨ M = 6 ∨ M = 7 ∨ M = 8 ∨ M = 9 := by omega
 all_goals omega
theorem leap_era (y k : Int) : leap (y + k * 400) ↔ leap y := by unfold leap; omega
theorem date_valid (n : Int) : valid (yrOf n) (moOf n) (dyOf n) := by
 obtain ⟨h1, h2, h3, h4, h5, h6⟩ := era_int n
 obtain ⟨m1, m2⟩ := mp_bd n
 have hm : mp n = (5 * dd n + 2) / 153 := rfl
 unfold valid yrOf moOf dyOf yr0 long
 by_cases hc : 12 < mp n + 3
 ·rw [if_pos hc, if_pos hc]
  have e : ye n + (n + 719468) / 146097 * 400 + 1 = (ye n + 1) + (n + 719468) / 146097 * 400 := by omega
  rw [e]
  simp only [leap_era]
  by_cases hl : leap (ye n + 1)
  ·simp only [hl, if_true]
   generalize mp n = M at *
   generalize dd n = D at *
   clear h5 h6 e
   obtain rfl | rfl : M = 10 ∨ M = 11 := by omega
   all_goals simp
   all_goals omega
  have h5' : dd n ≠ 365 := fun h => hl (h5 h)
  simp only [hl, if_false]
  generalize mp n = M at *
  generalize dd n = D at *
  clear h5 h6 e
  obtain rfl | rfl : M = 10 ∨ M = 11 := by omega
  all_goals simp
  all_goals omega
 rw [if_neg hc, if_neg hc]
 generalize mp n = M at *
 generalize dd n = D at *
 clear h5 h6
 obtain rfl | rfl | rfl | rfl | rfl | rfl | rfl | rfl | rfl | rfl : M = 0 ∨ M = 1 ∨ M = 2 ∨ M = 3 ∨ M = 4 ∨ M = 5 ∨ M = 6 ∨ M = 7 ∨ M = 8 ∨ M = 9 := by omega
 all_goals simp
 all_goals omega
theorem date_uniq {n y m d : Int} (h : valid y m d) (he : dayno y m d = n) : y = yrOf n ∧ m = moOf n ∧ d = dyOf n :=
 dayno_inj h (date_valid n) (by rw [he, date_dayno])
theorem yrOf_lo {n y : Int} (h : years y - years 1970 ≤ n) : y ≤ yrOf n := by
 have hv := date_valid n; have hd := date_dayno n
 obtain ⟨a1, a2, a3, a4⟩ := hv
 have c1 := cum_bd (yrOf n) (moOf n) a1 a2
 rcases Int.lt_or_le (yrOf n) y with hl | hl
 ·have := years_le hl
  unfold dayno at hd
  omega
 exact hl
theorem yrOf_hi {n y : Int} (h : n < years (y + 1) - years 1970) : yrOf n ≤ y := by
 have hv := date_valid n; have hd := date_dayno n
 obtain ⟨a1, a2, a3, a4⟩ := hv
 have c1 := cum_bd (yrOf n) (moOf n) a1 a2
 rcases Int.lt_or_le y (yrOf n) with hl | hl
 ·have := years_mono (show y + 1 ≤ yrOf n by omega)
  unfold dayno at hd
  omega
 exact hl
end G
namespace Go.Proofs.YtidonhndeohdlaaGreat
open Go.RowKit
theorem ret_int3 {k k' k'' : IntKind} {a b c d e f : Int} (h : a = b) (h' : c = d) (h'' : e = f) : Ending.returned (.tuple #[.int k a, .int k' c, .int k'' e]) = .returned (.tuple #[.int k b, .int k' d, .int k'' f]) := by rw [h, h', h'']
theorem tmod_zero (y k : Int) : (y.tmod k == 0) = decide (y % k = 0) := by
 rw [Bool.eq_iff_iff]
 simp only [beq_iff_eq, decide_eq_true_eq]
 exact ⟨fun h => Int.emod_eq_zero_of_dvd (Int.dvd_of_tmod_eq_zero h), fun h => Int.tmod_eq_zero_of_dvd (Int.dvd_of_emod_eq_zero h)⟩
theorem tmod_zero_ne (y k : Int) : (y.tmod k != 0) = !decide (y % k = 0) := by
 rw [← tmod_zero]; rfl
theorem civFloor (a b : Int) (w : World) (hb : 1 ≤ b) (h0 : -4000000000000000000 ≤ a) (h1 : a ≤ 4000000000000000000) : Calls Tryz.prog 176 #[.int .i64 a, .int .i64 b] w fun e w' => e = .returned (.int .i64 (a / b)) ∧ w = w' := by
 have h := J (tdiv_floor a b (by omega))
 have hd := tdiv_bd a b (by omega) h0 h1
 obtain ⟨d0, d1⟩ := hd
 by_cases hm : a.tmod b < 0
 ·go_enter Tryz.func176, Tryz.ntmps176
  go_wp2
  go_ret
  exact ⟨ret_int (by have := h.u; rw [if_pos hm] at this; exact this), rfl⟩
 go_enter Tryz.func176, Tryz.ntmps176
 go_wp2
 go_ret
 exact ⟨ret_int (by have := h.u; rw [if_neg (by omega)] at this; exact this), rfl⟩
open Go.RowKit
def okDate (y m d : Int) : Prop := -4000 ≤ y ∧ y ≤ 8000 ∧ G.valid y m d
instance (y m d : Int) : Decidable (okDate y m d) := by unfold okDate G.valid; infer_instance
theorem civDate (n : Int) (w : World) (n0 : -4000000 ≤ n) (n1 : n ≤ 4000000) : Calls Tryz.prog 177 #[.int .i64 n] w fun e w' => e = .returned (.tuple #[.int .i64 (G.yrOf n), .int .i64 (G.moOf n), .int .i64 (G.dyOf n)]) ∧ w = w' := by
 have ho : n + 719468 - (n + 719468) / 146097 * 146097 = G.eo n := by unfold G.eo; omega
 obtain ⟨h1, h2, h3, h4, h5, h6⟩ := G.era_int n
 clear h5 h6
 have o0 : 0 ≤ G.eo n := by unfold G.eo; omega
 have o1 : G.eo n < 146097 := by unfold G.eo; omega
 have hy : (G.eo n - G.eo n / 1460 + G.eo n / 36524 - G.eo n / 146096) / 365 = G.ye n := rfl
 have hd : G.eo n - (365 * G.ye n + G.ye n / 4 - G.ye n / 100) = G.dd n := rfl
 have hm : (5 * G.dd n + 2) / 153 = G.mp n := rfl
 obtain ⟨m0, m1⟩ := G.mp_bd n
 have hdy : Hid (G.dd n - (153 * G.mp n + 2) / 5 + 1 = G.dyOf n) := rfl
 by_cases hc : 12 < G.mp n + 3
 ·have k1 : Hid (G.ye n + (n + 719468) / 146097 * 400 + 1 = G.yrOf n) := by show _ = _; unfold G.yrOf G.yr0; rw [if_pos hc]
  have k2 : Hid (G.mp n + 3 - 12 = G.moOf n) := by show _ = _; unfold G.moOf; rw [if_pos hc]; omega
  go_enter Tryz.func177, Tryz.ntmps177
  go_wp2_with (first | (go_at_call 176; refine (civFloor _ _ _ (by omega) (by omega) (by omega)).mono ?_; rintro e w' ⟨rfl, rfl⟩))
  go_ret3
  exact ⟨ret_int3 k1.u k2.u hdy.u, rfl⟩
 have k1 : Hid (G.ye n + (n + 719468) / 146097 * 400 = G.yrOf n) := by show _ = _; unfold G.yrOf G.yr0; rw [if_neg hc]
 have k2 : Hid (G.mp n + 3 = G.moOf n) := by show _ = _; unfold G.moOf; rw [if_neg hc]
 go_enter Tryz.func177, Tryz.ntmps177
 go_wp2_with (first | (go_at_call 176; refine (civFloor _ _ _ (by omega) (by omega) (by omega)).mono ?_; rintro e w' ⟨rfl, rfl⟩))
 go_ret3
 exact ⟨ret_int3 k1.u k2.u hdy.u, rfl⟩
def civZero : Value := .agg #[.int .i64 0, .int .i64 0, .int .i64 0, .int .i64 0, .int .i64 0, .int .i64 0, .int .i64 0]
def civAgg (s h : Int) : Value := .agg #[.int .i64 (G.yrOf ((s + 60 * h) / 86400)), .int .i64 (G.moOf ((s + 60 * h) / 86400)), .int .i64 (G.dyOf ((s + 60 * h) / 86400)), .int .i64 ((s + 60 * h) % 86400 / 3600), .int .i64 ((s + 60 * h) % 86400 / 60 % 60), .int .i64 ((s + 60 * h) % 86400 % 60), .int .i64 (((s + 60 * h) / 86400 + 4) % 7)]
def okTime (s h : Int) : Prop := -100000000000 ≤ s ∧ s ≤ 100000000000 ∧ -900 ≤ h ∧ h ≤ 900
instance (s h : Int) : Decidable (okTime s h) := by unfold okTime; infer_instance
theorem civOf_no (s h : Int) (w : World) (hb : ¬ okTime s h) : Calls Tryz.prog 173 #[.int .i64 s, .int .i64 h] w fun e w' =>
  e = .returned (.tuple #[civZero, .int .i64 1]) ∧ Below w.heap.size w w' := by
 have hc : s < -100000000000 ∨ (-100000000000 ≤ s ∧ 100000000000 < s) ∨ (-100000000000 ≤ s ∧ s ≤ 100000000000 ∧ h < -900) ∨ (-100000000000 ≤ s ∧ s ≤ 100000000000 ∧ -900 ≤ h ∧ 900 < h) := by unfold okTime at hb; omega
 clear hb
 rcases hc with hc | ⟨hc, hd⟩ | ⟨hc, hd, he⟩ | ⟨hc, hd, he, hf⟩
 all_goals
  go_enter Tryz.func173, Tryz.ntmps173
  go_wp2
  refine bodyPost_ret (v := .tuple #[.agg #[.int .i64 0, .int .i64 0, .int .i64 0, .int .i64 0, .int .i64 0, .int .i64 0, .int .i64 0], .int .i64 1]) (by simp [results, Tryz.results173, go_sem]) rfl ⟨rfl, ?_⟩
  go_grown
theorem civOf_yes (s h : Int) (w : World) (hb : okTime s h) : Calls Tryz.prog 173 #[.int .i64 s, .int .i64 h] w fun e w' =>
  e = .returned (.tuple #[civAgg s h, .int .i64 0]) ∧ Below w.heap.size w w' := by
 obtain ⟨b0, b1, b2, b3⟩ := hb
 have em : s + 60 * h - (s + 60 * h) / 86400 * 86400 = (s + 60 * h) % 86400 := by omega
 have ew : (s + 60 * h) / 86400 + 4 - 7 * (((s + 60 * h) / 86400 + 4) / 7) = ((s + 60 * h) / 86400 + 4) % 7 := by omega
 have y0 := G.yrOf_lo (n := (s + 60 * h) / 86400) (y := -4000) (by rw [G.years_1970]; unfold G.years; omega)
 have y1 := G.yrOf_hi (n := (s + 60 * h) / 86400) (y := 8000) (by rw [G.years_1970]; unfold G.years; omega)
 go_enter Tryz.func173, Tryz.ntmps173
 go_wp2_with (first | (go_at_call 176; refine (civFloor _ _ _ (by omega) (by omega) (by omega)).mono ?_; rintro e w' ⟨rfl, rfl⟩) | (go_at_call 177; refine (civDate _ _ (by omega) (by omega)).mono ?_; rintro e w' ⟨rfl, rfl⟩))
 refine bodyPost_ret (v := .tuple #[civAgg s h, .int .i64 0]) (by simp [results, Tryz.results173, go_sem, civAgg]) rfl ⟨rfl, ?_⟩
 go_grown
end Go.Proofs.YtidonhndeohdlaaGreat
