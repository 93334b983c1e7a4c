/- What an item of a cron's field tells: plain. -/
import Derived.Test.YthelnkoohbnjpaaDoorTxtN
import Derived.Test.YthelnkoohbnjpaaDoorCronM
set_option linter.unusedVariables false
set_option linter.unusedSimpArgs false
namespace Tide
open Go
def cutX (c : UInt8) (s : ByteArray) : ByteArray := ⟨(cutB c s.data.toList).1.toArray⟩
def cutY (c : UInt8) (s : ByteArray) : ByteArray := ⟨(cutB c s.data.toList).2.1.toArray⟩
def cutZ (c : UInt8) (s : ByteArray) : Bool := (cutB c s.data.toList).2.2
theorem ba_ext {a b : ByteArray} (h : a.data.toList = b.data.toList) : a = b := by
  cases a with | mk x => cases b with | mk y =>
    congr 1
    exact Array.ext' h
theorem pieces_cut (c : UInt8) : ∀ l : List UInt8, pieces c l = if (cutB c l).2.2 then (cutB c l).1 :: pieces c (cutB c l).2.1 else [(cutB c l).1]
  | [] => rfl
  | b :: l => by
    have ih := pieces_cut c l
    by_cases h : b = c
    · subst h; rw [pieces_eq, cutB_eq]; rfl
    · rw [cutB_ne h]
      cases hz : (cutB c l).2.2 with
      | false => rw [hz] at ih; rw [pieces_ne h (show pieces c l = _ :: [] from ih)]; rfl
      | true => rw [hz] at ih; rw [pieces_ne h (show pieces c l = _ :: _ from ih)]; rfl
theorem cutB_size (c : UInt8) : ∀ l : List UInt8, (cutB c l).1.length ≤ l.length ∧ (cutB c l).2.1.length ≤ l.length
  | [] => ⟨Nat.le_refl _, Nat.le_refl _⟩
  | b :: l => by
    have ih := cutB_size c l
    by_cases h : b = c
    · subst h; rw [cutB_eq]; exact ⟨Nat.zero_le _, Nat.le_succ _⟩
    · rw [cutB_ne h]
      exact ⟨by show (b :: (cutB c l).1).length ≤ (b :: l).length; simp only [List.length_cons]; omega, by show (cutB c l).2.1.length ≤ (b :: l).length; simp only [List.length_cons]; omega⟩
theorem cutX_size (c : UInt8) (s : ByteArray) : (cutX c s).size ≤ s.size := by
  rw [ba_size, ba_size]; exact (cutB_size c _).1
theorem cutY_size (c : UInt8) (s : ByteArray) : (cutY c s).size ≤ s.size := by
  rw [ba_size, ba_size]; exact (cutB_size c _).2
theorem pieces_one {c : UInt8} {l : List UInt8} (h : c ∉ l) : pieces c l = [l] := by
  induction l with
  | nil => rfl
  | cons b l ih =>
    rw [List.mem_cons, not_or] at h
    rw [pieces_ne (fun e => h.1 e.symm) (ih h.2)]
theorem numL_has {most : Nat} {c : UInt8} {l : List UInt8} (h : c ∈ l) (hc : digB c = false) : numL most l = -1 := by
  obtain ⟨k, hk⟩ := List.mem_iff_getElem?.1 h
  exact numL_bad hk hc
/-- the pieces are one, two or more -/
theorem pieces_ways (c : UInt8) (s : ByteArray) (ps : List ByteArray) (h : ps.map (fun x : ByteArray => x.data.toList) = pieces c s.data.toList) :
    (cutZ c s = false ∧ ps = [cutX c s]) ∨ (cutZ c s = true ∧ ps = [cutX c s, cutY c s]) ∨ (cutZ c s = true ∧ 2 < ps.length ∧ c ∈ (cutY c s).data.toList ∧ ps[0]? = some (cutX c s)) := by
  rw [pieces_cut] at h
  cases hz : cutZ c s with
  | false =>
    have hz' : (cutB c s.data.toList).2.2 = false := hz
    rw [hz', if_neg (by simp)] at h
    obtain ⟨x, rfl, h1⟩ := List.map_eq_singleton_iff.1 h
    exact .inl ⟨rfl, by rw [ba_ext (a := x) (b := cutX c s) h1]⟩
  | true =>
    have hz' : (cutB c s.data.toList).2.2 = true := hz
    rw [hz', if_pos rfl] at h
    obtain ⟨x, qs, rfl, h1, h2⟩ := List.map_eq_cons_iff.1 h
    have hx := ba_ext (a := x) (b := cutX c s) h1
    subst hx
    by_cases hc : c ∈ (cutY c s).data.toList
    · refine .inr (.inr ⟨rfl, ?_, hc, rfl⟩)
      have h3 := congrArg List.length h2
      rw [List.length_map, pieces_many] at h3
      have := List.count_pos_iff.2 (show c ∈ (cutB c s.data.toList).2.1 from hc)
      simp only [List.length_cons]; omega
    · refine .inr (.inl ⟨rfl, ?_⟩)
      rw [pieces_one (show c ∉ (cutB c s.data.toList).2.1 from hc)] at h2
      obtain ⟨y, rfl, h3⟩ := List.map_eq_singleton_iff.1 h2
      rw [ba_ext (a := y) (b := cutY c s) h3]
/-- from n on, each `every`-th, till hi -/
def ticksF : Nat → Int → Int → Int → List Nat
  | 0, _, _, _ => []
  | f + 1, n, hi, e => if n ≤ hi then n.toNat :: ticksF f (n + e) hi e else []
theorem ticksF_more {f : Nat} {n hi e : Int} (hf : hi - n < f) (h : n ≤ hi) : ∃ g, f = g + 1 ∧ ticksF f n hi e = n.toNat :: ticksF g (n + e) hi e := by
  cases f with
  | zero => omega
  | succ g => exact ⟨g, rfl, if_pos h⟩
theorem ticksF_none {f : Nat} {n hi e : Int} (h : hi < n) : ticksF f n hi e = [] := by
  cases f with
  | zero => rfl
  | succ g => exact if_neg (by omega)
theorem ticksF_len : ∀ (f : Nat) (n hi e : Int), (ticksF f n hi e).length ≤ f
  | 0, _, _, _ => Nat.le_refl _
  | f + 1, n, hi, e => by
    show (if n ≤ hi then n.toNat :: ticksF f (n + e) hi e else []).length ≤ f + 1
    split
    · have := ticksF_len f (n + e) hi e; simp only [List.length_cons]; omega
    · simp
theorem ticksF_in : ∀ (f : Nat) (n hi e : Int), 0 ≤ n → 1 ≤ e → ∀ x ∈ ticksF f n hi e, n ≤ x ∧ (x : Int) ≤ hi
  | 0, _, _, _, _, _, x, hx => by simp [ticksF] at hx
  | f + 1, n, hi, e, h0, h1, x, hx => by
    replace hx : x ∈ (if n ≤ hi then n.toNat :: ticksF f (n + e) hi e else []) := hx
    split at hx
    · rcases List.mem_cons.1 hx with rfl | hx
      · omega
      · have := ticksF_in f (n + e) hi e (by omega) h1 x hx
        omega
    · cases hx
def star : ByteArray := ⟨#[42]⟩
def itLo (first : Int) (s : ByteArray) : Int := if cutX 47 s = star then first else numL 2 (cutX 45 (cutX 47 s)).data.toList
def itHi (last : Int) (s : ByteArray) : Int := if cutX 47 s = star then last else if cutZ 45 (cutX 47 s) = true then numL 2 (cutY 45 (cutX 47 s)).data.toList else numL 2 (cutX 45 (cutX 47 s)).data.toList
def itEv (s : ByteArray) : Int := if cutZ 47 s = true then numL 2 (cutY 47 s).data.toList else 1
def itBad (s : ByteArray) : Bool := decide (cutX 47 s ≠ star) && cutZ 47 s && !cutZ 45 (cutX 47 s)
/-- from lo to hi each `every`-th, if that is right -/
def spreadN (first last lo hi ev : Int) : List Nat := if lo < first ∨ last < hi ∨ ev < 1 then [] else ticksF 100 lo hi ev
def itemN (first last : Int) (s : ByteArray) : List Nat := if itBad s = true then [] else spreadN first last (itLo first s) (itHi last s) (itEv s)
theorem itemN_bad {first last : Int} {s : ByteArray} (h : itBad s = true) : itemN first last s = [] := by unfold itemN; rw [if_pos h]
theorem itemN_else {first last lo hi ev : Int} {s : ByteArray} (h : itBad s = false) (h1 : itLo first s = lo) (h2 : itHi last s = hi) (h3 : itEv s = ev) : itemN first last s = spreadN first last lo hi ev := by
  unfold itemN; rw [if_neg (by rw [h]; simp), h1, h2, h3]
theorem itemN_ev {first last : Int} {s : ByteArray} (h : itEv s < 1) : itemN first last s = [] := by
  unfold itemN
  split
  · rfl
  · unfold spreadN; rw [if_pos (.inr (.inr h))]
theorem spread_none {first last lo hi ev : Int} (h : lo < first ∨ last < hi ∨ ev < 1) : spreadN first last lo hi ev = [] := by unfold spreadN; rw [if_pos h]
theorem spread_back {first last lo hi ev : Int} (h : hi < lo) : spreadN first last lo hi ev = [] := by
  unfold spreadN
  split
  · rfl
  · exact ticksF_none h
theorem spread_some {first last lo hi ev : Int} (h1 : first ≤ lo) (h2 : hi ≤ last) (h3 : 1 ≤ ev) : spreadN first last lo hi ev = ticksF 100 lo hi ev := by unfold spreadN; rw [if_neg (by omega)]
theorem itEv_more {s : ByteArray} (h : cutZ 47 s = true) (h2 : (47 : UInt8) ∈ (cutY 47 s).data.toList) : itEv s = -1 := by
  unfold itEv
  rw [if_pos h, numL_has h2 (by decide)]
theorem itemN_more {first last : Int} {s : ByteArray} (h0 : 0 ≤ first) (hs : cutX 47 s ≠ star) (h : cutZ 45 (cutX 47 s) = true) (h2 : (45 : UInt8) ∈ (cutY 45 (cutX 47 s)).data.toList) : itemN first last s = [] := by
  have e : itHi last s = -1 := by
    unfold itHi
    rw [if_neg hs, if_pos h, numL_has h2 (by decide)]
  unfold itemN
  split
  · rfl
  · rw [e]
    by_cases h3 : itLo first s < first
    · exact spread_none (.inl h3)
    · exact spread_back (by omega)
theorem itemN_in {first last : Int} {s : ByteArray} (h0 : 0 ≤ first) : ∀ n ∈ itemN first last s, first ≤ (n : Int) ∧ (n : Int) ≤ last := by
  intro n hn
  unfold itemN at hn
  split at hn
  · cases hn
  · unfold spreadN at hn
    split at hn
    · cases hn
    · rename_i h
      have := ticksF_in 100 _ _ _ (by omega) (by omega) n hn
      omega
theorem itemN_len (first last : Int) (s : ByteArray) : (itemN first last s).length ≤ 100 := by
  unfold itemN
  split
  · simp
  · unfold spreadN
    split
    · simp
    · exact ticksF_len _ _ _ _
/-- the set of these numbers -/
def maskN (ns : List Nat) : Nat := ns.foldl (fun m n => m ||| 2 ^ n) 0
theorem maskN_snoc (ns : List Nat) (n : Nat) : maskN (ns ++ [n]) = maskN ns ||| 2 ^ n := by unfold maskN; rw [List.foldl_append]; rfl
theorem fold_or : ∀ (ns : List Nat) (m : Nat), ns.foldl (fun m n => m ||| 2 ^ n) m = m ||| maskN ns
  | [], m => by simp [maskN]
  | n :: ns, m => by
    show ns.foldl _ (m ||| 2 ^ n) = _
    rw [fold_or ns, show maskN (n :: ns) = ns.foldl (fun m n => m ||| 2 ^ n) (0 ||| 2 ^ n) from rfl, fold_or ns (0 ||| 2 ^ n), Nat.zero_or, Nat.or_assoc]
theorem maskN_append (a b : List Nat) : maskN (a ++ b) = maskN a ||| maskN b := by
  show (a ++ b).foldl _ 0 = _
  rw [List.foldl_append, fold_or]; rfl
theorem maskN_lt {ns : List Nat} (h : ∀ n ∈ ns, n ≤ 60) : maskN ns < 18446744073709551616 := by
  suffices ∀ (ns : List Nat) (m : Nat), m < 2 ^ 64 → (∀ n ∈ ns, n ≤ 60) → ns.foldl (fun m n => m ||| 2 ^ n) m < 2 ^ 64 from this ns 0 (by decide) h
  intro ns
  induction ns with
  | nil => intro m hm _; exact hm
  | cons n ns ih =>
    intro m hm h
    exact ih _ (Nat.or_lt_two_pow hm (Nat.pow_lt_pow_right (by decide) (by have := h n (by simp); omega))) (fun x hx => h x (List.mem_cons_of_mem _ hx))
theorem maskN_zero {ns : List Nat} (h : maskN ns = 0) : ns = [] := by
  cases ns with
  | nil => rfl
  | cons n ns =>
    exfalso
    rw [show maskN (n :: ns) = ns.foldl (fun m n => m ||| 2 ^ n) (0 ||| 2 ^ n) from rfl, fold_or, Nat.zero_or] at h
    have := congrArg (fun m => m.testBit n) h
    simp [Nat.testBit_two_pow_self] at this
theorem or_u64 (a b : Nat) (ha : a < 18446744073709551616) (hb : b < 18446744073709551616) : bits .or .u64 (a : Int) (b : Int) = ((a ||| b : Nat) : Int) := by
  show IntKind.u64.wrap ((BitVec.ofInt 64 (a : Int) ||| BitVec.ofInt 64 (b : Int)).toNat : Int) = _
  rw [BitVec.toNat_or, ofInt_u64 a ha, ofInt_u64 b hb]
  exact wrap_u64_nat _ (Nat.or_lt_two_pow (n := 64) ha hb)
end Tide
