/- Of the texts TxtN, TxtI, TxtP, LinC, TxtF, RdnC, CrnI: what this claim reaches. -/
import Derived.Shelf.Strings.PiecesUse
import Derived.Lib.Join
import Derived.Lib.ItoaNum
import Derived.Lib.ItoaLen
import Derived.WalkKit
import Derived.WalkSpells
import Derived.WalkLawsBesides
import Derived.Lib.Hide
import Derived.Deep.CutBlock
import Derived.Test.YtidonhndeohdlaaGreatDoorRows
import Derived.Test.YtidonhndeohdlaaGreatDoorTt00
import Derived.Test.YtidonhndeohdlaaGreatDoorTtShelf
import Derived.Test.YtidonhndeohdlaaGreatDoorTt11
set_option linter.unusedVariables false
set_option linter.unusedSimpArgs false
namespace Tide
open Go
def digB (b : UInt8) : Bool := decide (48 ≤ b.toNat) && decide (b.toNat ≤ 57)
def valL (l : List UInt8) : Int := l.foldl (fun n b => 10 * n + ((b.toNat : Int) - 48)) 0
def numL (most : Nat) (l : List UInt8) : Int := if 1 ≤ l.length ∧ l.length ≤ most ∧ l.all digB = true then valL l else -1
theorem valL_snoc (l : List UInt8) (b : UInt8) : valL (l ++ [b]) = 10 * valL l + ((b.toNat : Int) - 48) := by unfold valL; rw [List.foldl_append]; rfl
theorem valL_bd : ∀ (n : Nat) (l : List UInt8), l.length = n → l.all digB = true → 0 ≤ valL l ∧ valL l < 10 ^ n := by
  intro n
  induction n with
  | zero => intro l h _; obtain rfl : l = [] := List.length_eq_zero_iff.1 h; exact ⟨by decide, by decide⟩
  | succ n ih =>
    intro l h ha
    have hne : l ≠ [] := by intro e; rw [e] at h; simp at h
    have e := List.dropLast_concat_getLast hne
    have h1 : l.dropLast.length = n := by rw [List.length_dropLast, h]; rfl
    rw [← e, List.all_append, Bool.and_eq_true] at ha
    have hb := ha.2
    simp only [List.all_cons, List.all_nil, Bool.and_true] at hb
    unfold digB at hb
    rw [Bool.and_eq_true, decide_eq_true_eq, decide_eq_true_eq] at hb
    have := ih _ h1 ha.1
    rw [← e, valL_snoc]
    have e10 : (10 : Int) ^ (n + 1) = 10 * 10 ^ n := by rw [Int.pow_succ, Int.mul_comm]
    rw [e10]
    omega
theorem numL_yes {most : Nat} {l : List UInt8} (h1 : 1 ≤ l.length) (h2 : l.length ≤ most) (h3 : l.all digB = true) : numL most l = valL l := by unfold numL; rw [if_pos ⟨h1, h2, h3⟩]
theorem numL_size {most : Nat} {l : List UInt8} (h : l.length < 1 ∨ most < l.length) : numL most l = -1 := by unfold numL; rw [if_neg (by omega)]
theorem numL_bad {most : Nat} {l : List UInt8} {k : Nat} {b : UInt8} (h : l[k]? = some b) (hb : digB b = false) : numL most l = -1 := by
  unfold numL
  rw [if_neg]
  rintro ⟨_, _, h3⟩
  rw [List.all_eq_true] at h3
  rw [h3 b (List.mem_of_getElem? h)] at hb; cases hb
theorem numL_bd (most : Nat) (l : List UInt8) : -1 ≤ numL most l ∧ numL most l < 10 ^ most := by
  unfold numL
  split
  · rename_i h
    have := valL_bd l.length l rfl h.2.2
    have h2 : (10 : Int) ^ l.length ≤ 10 ^ most := by
      have := Nat.pow_le_pow_right (show 0 < 10 by decide) h.2.1
      exact_mod_cast this
    omega
  · have : (0 : Int) < 10 ^ most := by exact_mod_cast Nat.pow_pos (n := most) (show 0 < 10 by decide)
    omega
def piecesB (c : UInt8) (s : ByteArray) : List ByteArray := Lib.splitB ⟨#[c]⟩ 0 (Lib.countB s ⟨#[c]⟩) s
theorem piecesB_data (c : UInt8) (s : ByteArray) : (piecesB c s).map (·.data.toList) = pieces c s.data.toList := split_is c s
theorem piecesB_length (c : UInt8) (s : ByteArray) : (piecesB c s).length = Lib.countB s ⟨#[c]⟩ + 1 := Lib.splitB_all ⟨#[c]⟩ (Nat.le_refl 1) 0 _ s rfl
theorem piecesB_many (c : UInt8) (s : ByteArray) : (piecesB c s).length = (pieces c s.data.toList).length := by rw [← piecesB_data, List.length_map]
theorem ba_size (s : ByteArray) : s.size = s.data.toList.length := by rw [Array.length_toList]; rfl
theorem piecesB_le {c : UInt8} {s x : ByteArray} (h : x ∈ piecesB c s) : x.size ≤ s.size := by
  have h1 : x.data.toList ∈ pieces c s.data.toList := by rw [← piecesB_data]; exact List.mem_map_of_mem h
  have := pieces_le c _ _ h1
  rw [ba_size, ba_size]; exact this
theorem piecesB_few (c : UInt8) (s : ByteArray) : (piecesB c s).length ≤ s.size + 1 := by
  rw [piecesB_many, pieces_many, ba_size]
  have := List.count_le_length (a := c) (l := s.data.toList)
  omega
end Tide
namespace Go.Proofs.YtidonhndeohdlaaGreatDoor
open Go.RowKit
theorem byte_get {s : ByteArray} {k : Nat} (h : k < s.size) : ∃ b : UInt8, s.data.toList[k]? = some b ∧ byteAt s k = b.toNat := by
  have h' : k < s.data.size := h
  refine ⟨s.data[k], by rw [Array.getElem?_toList, Array.getElem?_eq_getElem h'], ?_⟩
  unfold byteAt
  rw [Array.getElem?_eq_getElem h']; rfl
theorem shlSplit (c : UInt8) (s : ByteArray) (m : Int) (w : World) (hs : s.size ≤ 1000000) (hm : w.cell? ⟨1, 0, none⟩ = some (.int .i64 m)) :
    Calls Tryz.prog 84 #[.string s, .string ⟨#[c]⟩] w fun e w' => e = .returned (.slice (some ⟨w.heap.size, 0, none⟩) (Tide.piecesB c s).length (Tide.piecesB c s).length) ∧ w' = w.alloc (.cells ((Tide.piecesB c s).map Value.string).toArray 9) := by
  rw [Tide.piecesB_length]
  exact Tryz.strings_Split s ⟨#[c]⟩ m w (by omega) hm (Nat.le_refl 1)
theorem shlCut (c : UInt8) (s : ByteArray) (m : Int) (w : World) (hs : s.size ≤ 1000000) (hm : w.cell? ⟨1, 0, none⟩ = some (.int .i64 m)) :
    Calls Tryz.prog 83 #[.string s, .string ⟨#[c]⟩] w fun e w' => e = .returned (.tuple #[.string ⟨(Tide.cutB c s.data.toList).1.toArray⟩, .string ⟨(Tide.cutB c s.data.toList).2.1.toArray⟩, .bool (Tide.cutB c s.data.toList).2.2]) ∧ Below w.heap.size w w' := by
  have h := Tryz.strings_Cut s ⟨#[c]⟩ m w (by omega) hm
  have e : Lib.cut s.data.toList (⟨#[c]⟩ : ByteArray).data.toList = Tide.cutB c s.data.toList := Tide.cut_is c _
  rw [e] at h
  exact h.mono fun _ _ ⟨h1, n, h2⟩ => ⟨h1, by rw [h2]; exact below_drewN (Below.refl _ _) n⟩
end Go.Proofs.YtidonhndeohdlaaGreatDoor
namespace Tide
open Go
def cutX (c : UInt8) (s : ByteArray) : ByteArray := ⟨(cutB c s.data.toList).1.toArray⟩
def cutY (c : UInt8) (s : ByteArray) : ByteArray := ⟨(cutB c s.data.toList).2.1.toArray⟩
def cutZ (c : UInt8) (s : ByteArray) : Bool := (cutB c s.data.toList).2.2
theorem ba_ext {a b : ByteArray} (h : a.data.toList = b.data.toList) : a = b := by
  cases a with | mk x => cases b with | mk y =>
    congr 1
    exact Array.ext' h
theorem cutB_size (c : UInt8) : ∀ l : List UInt8, (cutB c l).1.length ≤ l.length ∧ (cutB c l).2.1.length ≤ l.length
  | [] => ⟨Nat.le_refl _, Nat.le_refl _⟩
  | b :: l => by
    have ih := cutB_size c l
    by_cases h : b = c
    · subst h; rw [cutB_eq]; exact ⟨Nat.zero_le _, Nat.le_succ _⟩
    · rw [cutB_ne h]
      exact ⟨by show (b :: (cutB c l).1).length ≤ (b :: l).length; simp only [List.length_cons]; omega, by show (cutB c l).2.1.length ≤ (b :: l).length; simp only [List.length_cons]; omega⟩
theorem cutX_size (c : UInt8) (s : ByteArray) : (cutX c s).size ≤ s.size := by
  rw [ba_size, ba_size]; exact (cutB_size c _).1
theorem cutY_size (c : UInt8) (s : ByteArray) : (cutY c s).size ≤ s.size := by
  rw [ba_size, ba_size]; exact (cutB_size c _).2
theorem pieces_one {c : UInt8} {l : List UInt8} (h : c ∉ l) : pieces c l = [l] := by
  induction l with
  | nil => rfl
  | cons b l ih =>
    rw [List.mem_cons, not_or] at h
    rw [pieces_ne (fun e => h.1 e.symm) (ih h.2)]
def ticksF : Nat → Int → Int → Int → List Nat
  | 0, _, _, _ => []
  | f + 1, n, hi, e => if n ≤ hi then n.toNat :: ticksF f (n + e) hi e else []
theorem ticksF_more {f : Nat} {n hi e : Int} (hf : hi - n < f) (h : n ≤ hi) : ∃ g, f = g + 1 ∧ ticksF f n hi e = n.toNat :: ticksF g (n + e) hi e := by
  cases f with
  | zero => omega
  | succ g => exact ⟨g, rfl, if_pos h⟩
theorem ticksF_none {f : Nat} {n hi e : Int} (h : hi < n) : ticksF f n hi e = [] := by
  cases f with
  | zero => rfl
  | succ g => exact if_neg (by omega)
theorem ticksF_in : ∀ (f : Nat) (n hi e : Int), 0 ≤ n → 1 ≤ e → ∀ x ∈ ticksF f n hi e, n ≤ x ∧ (x : Int) ≤ hi
  | 0, _, _, _, _, _, x, hx => by simp [ticksF] at hx
  | f + 1, n, hi, e, h0, h1, x, hx => by
    replace hx : x ∈ (if n ≤ hi then n.toNat :: ticksF f (n + e) hi e else []) := hx
    split at hx
    · rcases List.mem_cons.1 hx with rfl | hx
      · omega
      · have := ticksF_in f (n + e) hi e (by omega) h1 x hx
        omega
    · cases hx
def star : ByteArray := ⟨#[42]⟩
def itLo (first : Int) (s : ByteArray) : Int := if cutX 47 s = star then first else numL 2 (cutX 45 (cutX 47 s)).data.toList
def itHi (last : Int) (s : ByteArray) : Int := if cutX 47 s = star then last else if cutZ 45 (cutX 47 s) = true then numL 2 (cutY 45 (cutX 47 s)).data.toList else numL 2 (cutX 45 (cutX 47 s)).data.toList
def itEv (s : ByteArray) : Int := if cutZ 47 s = true then numL 2 (cutY 47 s).data.toList else 1
def itBad (s : ByteArray) : Bool := decide (cutX 47 s ≠ star) && cutZ 47 s && !cutZ 45 (cutX 47 s)
def spreadN (first last lo hi ev : Int) : List Nat := if lo < first ∨ last < hi ∨ ev < 1 then [] else ticksF 100 lo hi ev
def itemN (first last : Int) (s : ByteArray) : List Nat := if itBad s = true then [] else spreadN first last (itLo first s) (itHi last s) (itEv s)
theorem itemN_bad {first last : Int} {s : ByteArray} (h : itBad s = true) : itemN first last s = [] := by unfold itemN; rw [if_pos h]
theorem itemN_else {first last lo hi ev : Int} {s : ByteArray} (h : itBad s = false) (h1 : itLo first s = lo) (h2 : itHi last s = hi) (h3 : itEv s = ev) : itemN first last s = spreadN first last lo hi ev := by
  unfold itemN; rw [if_neg (by rw [h]; simp), h1, h2, h3]
theorem spread_none {first last lo hi ev : Int} (h : lo < first ∨ last < hi ∨ ev < 1) : spreadN first last lo hi ev = [] := by unfold spreadN; rw [if_pos h]
theorem spread_some {first last lo hi ev : Int} (h1 : first ≤ lo) (h2 : hi ≤ last) (h3 : 1 ≤ ev) : spreadN first last lo hi ev = ticksF 100 lo hi ev := by unfold spreadN; rw [if_neg (by omega)]
theorem itemN_in {first last : Int} {s : ByteArray} (h0 : 0 ≤ first) : ∀ n ∈ itemN first last s, first ≤ (n : Int) ∧ (n : Int) ≤ last := by
  intro n hn
  unfold itemN at hn
  split at hn
  · cases hn
  · unfold spreadN at hn
    split at hn
    · cases hn
    · rename_i h
      have := ticksF_in 100 _ _ _ (by omega) (by omega) n hn
      omega
def maskN (ns : List Nat) : Nat := ns.foldl (fun m n => m ||| 2 ^ n) 0
theorem maskN_snoc (ns : List Nat) (n : Nat) : maskN (ns ++ [n]) = maskN ns ||| 2 ^ n := by unfold maskN; rw [List.foldl_append]; rfl
theorem fold_or : ∀ (ns : List Nat) (m : Nat), ns.foldl (fun m n => m ||| 2 ^ n) m = m ||| maskN ns
  | [], m => by simp [maskN]
  | n :: ns, m => by
    show ns.foldl _ (m ||| 2 ^ n) = _
    rw [fold_or ns, show maskN (n :: ns) = ns.foldl (fun m n => m ||| 2 ^ n) (0 ||| 2 ^ n) from rfl, fold_or ns (0 ||| 2 ^ n), Nat.zero_or, Nat.or_assoc]
theorem maskN_append (a b : List Nat) : maskN (a ++ b) = maskN a ||| maskN b := by
  show (a ++ b).foldl _ 0 = _
  rw [List.foldl_append, fold_or]; rfl
theorem maskN_lt {ns : List Nat} (h : ∀ n ∈ ns, n ≤ 60) : maskN ns < 18446744073709551616 := by
  suffices ∀ (ns : List Nat) (m : Nat), m < 2 ^ 64 → (∀ n ∈ ns, n ≤ 60) → ns.foldl (fun m n => m ||| 2 ^ n) m < 2 ^ 64 from this ns 0 (by decide) h
  intro ns
  induction ns with
  | nil => intro m hm _; exact hm
  | cons n ns ih =>
    intro m hm h
    exact ih _ (Nat.or_lt_two_pow hm (Nat.pow_lt_pow_right (by decide) (by have := h n (by simp); omega))) (fun x hx => h x (List.mem_cons_of_mem _ hx))
theorem maskN_zero {ns : List Nat} (h : maskN ns = 0) : ns = [] := by
  cases ns with
  | nil => rfl
  | cons n ns =>
    exfalso
    rw [show maskN (n :: ns) = ns.foldl (fun m n => m ||| 2 ^ n) (0 ||| 2 ^ n) from rfl, fold_or, Nat.zero_or] at h
    have := congrArg (fun m => m.testBit n) h
    simp [Nat.testBit_two_pow_self] at this
theorem or_u64 (a b : Nat) (ha : a < 18446744073709551616) (hb : b < 18446744073709551616) : bits .or .u64 (a : Int) (b : Int) = ((a ||| b : Nat) : Int) := by
  show IntKind.u64.wrap ((BitVec.ofInt 64 (a : Int) ||| BitVec.ofInt 64 (b : Int)).toNat : Int) = _
  rw [BitVec.toNat_or, ofInt_u64 a ha, ofInt_u64 b hb]
  exact wrap_u64_nat _ (Nat.or_lt_two_pow (n := 64) ha hb)
end Tide
namespace Tide
open Go
def decB (n : Nat) : ByteArray := ⟨(Lib.decDigits n).toArray⟩
theorem decB_size {n : Nat} (h : n < 100) : (decB n).size ≤ 2 := by
  rw [ba_size]
  show (Lib.decDigits n).length ≤ 2
  by_cases h1 : n < 10
  · rw [Lib.decDigits_one h1]; simp
  · rw [Lib.decDigits_two h1 h]; simp
def runTxt (a b : Nat) : ByteArray := if b = a then decB a else decB a ++ ⟨#[45]⟩ ++ decB b
theorem runTxt_one (a : Nat) : runTxt a a = decB a := if_pos rfl
theorem runTxt_two {a b : Nat} (h : b ≠ a) : runTxt a b = decB a ++ ⟨#[45]⟩ ++ decB b := if_neg h
theorem runTxt_size {a b : Nat} (ha : a < 100) (hb : b < 100) : (runTxt a b).size ≤ 5 := by
  have h1 := decB_size ha; have h2 := decB_size hb
  unfold runTxt
  split
  · omega
  · rw [ByteArray.size_append, ByteArray.size_append]
    show _ + 1 + _ ≤ 5
    omega
def runEnd (s hi : Nat) : Nat → Nat → Nat
  | 0, v => v
  | f + 1, v => if v < hi ∧ s.testBit (v + 1) = true then runEnd s hi f (v + 1) else v
theorem runEnd_go {s hi v f : Nat} (hf : hi - v ≤ f) (h1 : v < hi) (h2 : s.testBit (v + 1) = true) : ∃ g, f = g + 1 ∧ runEnd s hi f v = runEnd s hi g (v + 1) := by
  cases f with
  | zero => omega
  | succ g => exact ⟨g, rfl, if_pos ⟨h1, h2⟩⟩
theorem runEnd_stop {s hi v f : Nat} (h : ¬ (v < hi ∧ s.testBit (v + 1) = true)) : runEnd s hi f v = v := by
  cases f with
  | zero => rfl
  | succ g => exact if_neg h
theorem runEnd_le : ∀ (s hi f v : Nat), v ≤ hi → v ≤ runEnd s hi f v ∧ runEnd s hi f v ≤ hi ∧ ∀ u, v < u → u ≤ runEnd s hi f v → s.testBit u = true
  | s, hi, 0, v, h => ⟨Nat.le_refl _, h, fun u h1 h2 => absurd (show u ≤ v from h2) (by omega)⟩
  | s, hi, f + 1, v, h => by
    by_cases hc : v < hi ∧ s.testBit (v + 1) = true
    · have e : runEnd s hi (f + 1) v = runEnd s hi f (v + 1) := if_pos hc
      obtain ⟨h1, h2, h3⟩ := runEnd_le s hi f (v + 1) (by omega)
      rw [e]
      refine ⟨by omega, h2, fun u hu1 hu2 => ?_⟩
      by_cases hu : u = v + 1
      · subst hu; exact hc.2
      · exact h3 u (by omega) hu2
    · have e : runEnd s hi (f + 1) v = v := if_neg hc
      rw [e]
      exact ⟨Nat.le_refl _, h, fun u h1 h2 => absurd h2 (by omega)⟩
theorem runEnd_max : ∀ (s hi f v : Nat), v ≤ hi → hi - v ≤ f → runEnd s hi f v < hi → s.testBit (runEnd s hi f v + 1) = false
  | s, hi, 0, v, h, hf, hl => absurd (show v < hi from hl) (by omega)
  | s, hi, f + 1, v, h, hf, hl => by
    by_cases hc : v < hi ∧ s.testBit (v + 1) = true
    · have e : runEnd s hi (f + 1) v = runEnd s hi f (v + 1) := if_pos hc
      rw [e] at hl ⊢
      exact runEnd_max s hi f (v + 1) (by omega) (by omega) hl
    · have e : runEnd s hi (f + 1) v = v := if_neg hc
      rw [e] at hl ⊢
      cases hb : s.testBit (v + 1) with
      | false => rfl
      | true => exact absurd ⟨hl, hb⟩ hc
def begins (s lo v : Nat) : Bool := s.testBit v && (decide (v = lo) || !s.testBit (v - 1))
def txtsUp (s lo hi v : Nat) : List ByteArray := ((List.range v).filter (fun u => decide (lo ≤ u) && begins s lo u)).map (fun u => runTxt u (runEnd s hi 64 u))
theorem txtsUp_no {s lo hi v : Nat} (h : (decide (lo ≤ v) && begins s lo v) = false) : txtsUp s lo hi (v + 1) = txtsUp s lo hi v := by
  unfold txtsUp
  rw [List.range_succ, List.filter_append, List.filter_cons_of_neg (by rw [h]; simp), List.filter_nil, List.append_nil]
theorem txtsUp_yes {s lo hi v : Nat} (h1 : lo ≤ v) (h : begins s lo v = true) : txtsUp s lo hi (v + 1) = txtsUp s lo hi v ++ [runTxt v (runEnd s hi 64 v)] := by
  unfold txtsUp
  rw [List.range_succ, List.filter_append, List.filter_cons_of_pos (by rw [h, decide_eq_true h1]; rfl), List.filter_nil, List.map_append]; rfl
theorem txtsUp_lo (s lo hi : Nat) : txtsUp s lo hi lo = [] := by
  unfold txtsUp
  have : (List.range lo).filter (fun u => decide (lo ≤ u) && begins s lo u) = [] := by
    rw [List.filter_eq_nil_iff]
    intro u hu
    have := List.mem_range.1 hu
    rw [decide_eq_false (show ¬ lo ≤ u by omega)]; simp
  rw [this]; rfl
theorem txtsUp_skip {s lo hi v : Nat} : ∀ (d : Nat), lo ≤ v → (∀ u, v < u → u ≤ v + d → s.testBit u = false ∨ s.testBit (u - 1) = true) → txtsUp s lo hi (v + 1 + d) = txtsUp s lo hi (v + 1)
  | 0, _, _ => rfl
  | d + 1, h1, h => by
    have e : v + 1 + (d + 1) = (v + 1 + d) + 1 := by omega
    rw [e, txtsUp_no, txtsUp_skip d h1 (fun u a b => h u a (by omega))]
    unfold begins
    rcases h (v + 1 + d) (by omega) (by omega) with c | c
    · rw [c]; simp
    · rw [show v + 1 + d - 1 = v + d by omega] at c
      rw [show v + 1 + d - 1 = v + d by omega, c, decide_eq_false (show ¬ v + 1 + d = lo by omega)]; simp
theorem txtsUp_len (s lo hi v : Nat) : (txtsUp s lo hi v).length ≤ v := by
  unfold txtsUp
  rw [List.length_map]
  have := List.length_filter_le (fun u => decide (lo ≤ u) && begins s lo u) (List.range v)
  rwa [List.length_range] at this
theorem txtsUp_size {s lo hi v : Nat} (hv : v ≤ hi + 1) (hh : hi < 99) : ∀ x ∈ txtsUp s lo hi v, x.size ≤ 5 := by
  intro x hx
  unfold txtsUp at hx
  obtain ⟨u, hu, rfl⟩ := List.mem_map.1 hx
  have h1 := List.mem_range.1 (List.mem_filter.1 hu).1
  have := (runEnd_le s hi 64 u (by omega)).2.1
  exact runTxt_size (by omega) (by omega)
def joinB (c : UInt8) (l : List ByteArray) : ByteArray := ⟨(Lib.join (l.map (·.data.toList)) [c]).toArray⟩
theorem joinB_nil (c : UInt8) : joinB c [] = ⟨#[]⟩ := rfl
theorem lens_le {k : Nat} : ∀ {l : List (List UInt8)}, (∀ x ∈ l, x.length ≤ k) → Lib.lens l ≤ k * l.length
  | [], _ => by simp [Lib.lens]
  | y :: l, h => by
    have ih := lens_le (l := l) (fun x hx => h x (List.mem_cons_of_mem _ hx))
    have h1 := h y (by simp)
    simp only [Lib.lens, List.map_cons, List.sum_cons, List.length_cons] at ih ⊢
    rw [Nat.mul_succ]; omega
theorem joinB_size (c : UInt8) {l : List ByteArray} {k : Nat} (h : ∀ x ∈ l, x.size ≤ k) : (joinB c l).size ≤ (k + 1) * l.length := by
  rw [ba_size]
  cases l with
  | nil => exact Nat.le_refl _
  | cons y l =>
    show (Lib.join (y.data.toList :: l.map (·.data.toList)) [c]).length ≤ _
    rw [Lib.join_length]
    have := lens_le (k := k) (l := y.data.toList :: l.map (·.data.toList)) (fun x hx => by
      rcases List.mem_cons.1 hx with rfl | hx
      · rw [← ba_size]; exact h y (by simp)
      · obtain ⟨z, hz, rfl⟩ := List.mem_map.1 hx
        rw [← ba_size]; exact h z (List.mem_cons_of_mem _ hz))
    simp only [List.length_cons, List.length_map, List.length_nil] at this ⊢
    have e := Nat.add_mul k 1 (l.length + 1)
    omega
def fieldTxt (s lo hi : Nat) (any : Bool) : ByteArray := if s = allN lo hi ∧ any = true then star else joinB 44 (txtsUp s lo hi (hi + 1))
theorem fieldTxt_size (s lo hi : Nat) (any : Bool) (hh : hi ≤ 60) : (fieldTxt s lo hi any).size ≤ 400 := by
  unfold fieldTxt
  split
  · decide
  · have h1 := joinB_size 44 (k := 5) (txtsUp_size (s := s) (lo := lo) (v := hi + 1) (Nat.le_refl _) (show hi < 99 by omega))
    have h2 := txtsUp_len s lo hi (hi + 1)
    omega
end Tide
namespace Tide
open Go
def itoB (n : Int) : ByteArray := ⟨(Lib.itoa n).toArray⟩
def rowB (w : ByteArray) (l : List Int) : ByteArray := l.foldl (fun a n => a ++ (⟨#[32]⟩ ++ itoB n)) w
def lineB (w : ByteArray) (l : List Int) : ByteArray := rowB w l ++ ⟨#[10]⟩
theorem rowB_next {w : ByteArray} {l : List Int} {k : Nat} {n : Int} (h : l[k]? = some n) : rowB w (l.take (k + 1)) = rowB w (l.take k) ++ (⟨#[32]⟩ ++ itoB n) := by
  unfold rowB
  rw [List.take_add_one, h, List.foldl_append]; rfl
theorem itoB_size {n : Int} (h : -9223372036854775808 ≤ n ∧ n ≤ 9223372036854775807) : (itoB n).size ≤ 21 := by
  rw [ba_size]
  show (Lib.itoa n).length ≤ 21
  exact Lib.itoa_length_le n h.1 h.2
theorem rowB_size {w : ByteArray} : ∀ {l : List Int}, (∀ x ∈ l, -9223372036854775808 ≤ x ∧ x ≤ 9223372036854775807) → (rowB w l).size ≤ w.size + 22 * l.length := by
  intro l
  induction l generalizing w with
  | nil => intro _; exact Nat.le_refl _
  | cons n l ih =>
    intro h
    have h1 := ih (w := w ++ (⟨#[32]⟩ ++ itoB n)) (fun x hx => h x (List.mem_cons_of_mem _ hx))
    have h2 := itoB_size (h n (by simp))
    show (rowB (w ++ (⟨#[32]⟩ ++ itoB n)) l).size ≤ _
    rw [ByteArray.size_append, ByteArray.size_append] at h1
    have h3 : (⟨#[32]⟩ : ByteArray).size = 1 := rfl
    rw [List.length_cons]
    omega
theorem lineB_size {w : ByteArray} {l : List Int} (h : ∀ x ∈ l, -9223372036854775808 ≤ x ∧ x ≤ 9223372036854775807) : (lineB w l).size ≤ w.size + 22 * l.length + 1 := by
  unfold lineB
  rw [ByteArray.size_append]
  have h3 : (⟨#[10]⟩ : ByteArray).size = 1 := rfl
  have := rowB_size (w := w) h
  omega
end Tide
namespace Go.Proofs.YtidonhndeohdlaaGreatDoor
open Go.RowKit
abbrev PowTab (w : World) : Prop := Lib.TabIs Tryz.prog w "internal/strconv.uint64pow10" .u64 Lib.pow10Tab
theorem PowTab.below {w w' : World} (h : PowTab w) (hb : Below w.heap.size w w') : PowTab w' := by
  have hgn : Tryz.prog.globalNamed "internal/strconv.uint64pow10" = some 0 := by kernel_rfl
  unfold PowTab Lib.TabIs World.var? at h ⊢
  rw [hgn] at h ⊢
  simp only [Option.bind_some] at h ⊢
  have hlt : 0 < w.heap.size := by
    rcases Nat.lt_or_ge 0 w.heap.size with h' | h'
    · exact h'
    · rw [Array.getElem?_eq_none h'] at h; cases h
  rw [hb.block _ hlt]
  exact h
theorem below_grow (w : World) (k : Nat) (os : Array Obj) : Below w.heap.size w (Go.Sort.grow (w.drewN k) os) :=
  ⟨rfl, rfl, rfl, by show _ ≤ (w.heap ++ os).size; rw [Array.size_append]; exact Nat.le_add_right _ _, fun g hg => by show (w.heap ++ os)[g]? = w.heap[g]?; rw [Array.getElem?_append_left hg]⟩
def IntW (n : Int) : Prop := -9223372036854775808 ≤ n ∧ n ≤ 9223372036854775807
def LinPost (t : ByteArray) (w : World) (e : Ending) (w' : World) : Prop := e = .returned (.string t) ∧ Below w.heap.size w w'
theorem itoaAny (n : Int) (hn : IntW n) (w : World) (ht : PowTab w) : Calls Tryz.prog 20 #[.int .i64 n] w (LinPost (Tide.itoB n) w) :=
  (Tryz.strconv_Itoa n hn.1 hn.2 w ht).mono fun e w' ⟨he, k, os, hw⟩ => ⟨he, hw ▸ below_grow w k os⟩
structure LinS (w W : World) (b : Nat) (l : List Int) : Prop where
  tab : PowTab W
  row : Tide.At W b 3 (l.map (Value.int .i64)).toArray
  below : Below w.heap.size w W
theorem LinS.next {w W W' : World} {b : Nat} {l : List Int} (h : LinS w W b l) (hb : Below W.heap.size W W') : LinS w W' b l :=
  ⟨h.tab.below hb, h.row.below hb h.row.inside, h.below.trans (hb.mono h.below.size)⟩
set_option maxRecDepth 100000 in
set_option maxHeartbeats 1600000 in
theorem planLine (word : ByteArray) (l : List Int) (n : Nat) (hn : l.length = n) (hl : n ≤ 4) (hr : ∀ x ∈ l, IntW x) (hw : word.size ≤ 1000) (b cap : Nat) (w : World) (hb : Tide.At w b 3 (l.map (Value.int .i64)).toArray) (ht : PowTab w) :
    Calls Tryz.prog 18 #[.string word, .slice (some ⟨b, 0, none⟩) n cap] w (LinPost (Tide.lineB word l) w) := by
  have HS := Lib.hid (show LinS w w b l from ⟨ht, hb, Below.refl _ _⟩)
  have HR := Lib.hid hr
  have HN := Lib.hid hn
  have HW := Lib.hid (show word = Tide.rowB word (l.take 0) from rfl)
  have HZ := Lib.hid (fun k (hk : k ≤ 4) => (show (Tide.rowB word (l.take k)).size ≤ 1088 from Nat.le_trans (Tide.rowB_size (fun x hx => hr x (List.mem_of_mem_take hx))) (by rw [List.length_take]; omega)))
  have hl' : (n : Int) ≤ 4 := by omega
  clear hr hb ht hn hw
  go_enter Tryz.func18, Tryz.ntmps18
  go_wp2_with fail
  go_loopw [9, 0] (fun x y wr => ∃ k : Nat, k ≤ n ∧ x = .int .i64 k ∧ y = .string (Tide.rowB word (l.take k)) ∧ Hid (LinS w wr b l)) (fun x _ _ => n - (intOf x).toNat)
  case atStart => exact ⟨0, by omega, rfl, by rw [← HW.out], HS⟩
  case round =>
    clear HS
    obtain ⟨k, hk, rfl, rfl, HS⟩ := hrel
    have i0 : (0 : Int) ≤ (k : Int) := by omega
    by_cases hlt : k < n
    · have i1 : (k : Int) < (n : Int) := by omega
      obtain ⟨x, hx⟩ : ∃ x, l[k]? = some x := ⟨l[k]'(by rw [HN.out]; exact hlt), List.getElem?_eq_getElem _⟩
      have HX := Lib.hid hx
      have HNx := Lib.hid (Tide.rowB_next (w := word) hx)
      have x0 : wr.cell? ⟨b, k, none⟩ = some (.int .i64 x) := HS.out.row.here (by simp [hx])
      have HI := Lib.hid (itoaAny x (HR.out x (List.mem_of_getElem? hx)) wr HS.out.tab)
      have HK := Lib.hid hlt
      have hy := HZ.out k (by omega)
      have hone : (⟨#[32]⟩ : ByteArray).size = 1 := rfl
      have hit := Tide.itoB_size (HR.out x (List.mem_of_getElem? hx))
      have hz1 : (⟨#[32]⟩ : ByteArray).size + (Tide.itoB x).size ≤ 9223372036854775807 := by omega
      clear hk hx
      generalize Tide.rowB word (l.take k) = Y at HNx hy ⊢
      have hz2 : Y.size + (⟨#[32]⟩ ++ Tide.itoB x).size ≤ 9223372036854775807 := by rw [ByteArray.size_append]; omega
      clear hy hone hit
      go_wp2_with fail
      refine HI.out.mono ?_
      rintro e w1 ⟨rfl, hb1⟩
      have HS1 := Lib.hid (HS.out.next hb1)
      clear hb1 HS x0
      go_wp2_with fail
      go_round
      case rel => exact ⟨k + 1, by have := HK.out; omega, by go_num, by rw [HNx.out], HS1⟩
      case measure => have := HK.out; simp [intOf]; omega
    · obtain rfl : k = n := by omega
      have HF := Lib.hid (show Tide.lineB word l = Tide.rowB word (l.take k) ++ ⟨#[10]⟩ by rw [List.take_of_length_le (by rw [HN.out]; exact Nat.le_refl _)]; rfl)
      have hone : (⟨#[10]⟩ : ByteArray).size = 1 := rfl
      have hy := HZ.out k (by omega)
      have hz : (Tide.rowB word (l.take k)).size + (⟨#[10]⟩ : ByteArray).size ≤ 9223372036854775807 := by omega
      clear hone hy
      go_wp2_with fail
      go_ret
      exact ⟨by rw [HF.out] <;> rfl, HS.out.below⟩
end Go.Proofs.YtidonhndeohdlaaGreatDoor
namespace Tide
open Go
def itemsN (first last : Int) (ps : List ByteArray) : List Nat := ps.flatMap (itemN first last)
def fieldOk (first last : Int) (s : ByteArray) : Bool := (piecesB 44 s).all (fun p => !(itemN first last p).isEmpty)
def fieldN (first last : Int) (s : ByteArray) : Nat := maskN (itemsN first last (piecesB 44 s))
theorem itemsN_snoc (first last : Int) (ps : List ByteArray) (p : ByteArray) : itemsN first last (ps ++ [p]) = itemsN first last ps ++ itemN first last p := by
  unfold itemsN; rw [List.flatMap_append]; simp
theorem itemsN_le {first last : Nat} (hl : last ≤ 60) (ps : List ByteArray) : ∀ n ∈ itemsN first last ps, n ≤ 60 := by
  intro n hn
  obtain ⟨p, _, h⟩ := List.mem_flatMap.1 hn
  have := itemN_in (first := (first : Int)) (last := (last : Int)) (s := p) (by omega) n h
  omega
theorem mask_items_lt {first last : Nat} (hl : last ≤ 60) (ps : List ByteArray) : maskN (itemsN first last ps) < 18446744073709551616 := maskN_lt (itemsN_le hl ps)
theorem fieldOk_bad {first last : Int} {s p : ByteArray} {k : Nat} (h : (piecesB 44 s)[k]? = some p) (he : itemN first last p = []) : fieldOk first last s = false := by
  unfold fieldOk
  rw [List.all_eq_false]
  exact ⟨p, List.mem_of_getElem? h, by rw [he]; simp⟩
theorem fieldOk_good {first last : Int} {s : ByteArray} (h : ∀ p ∈ piecesB 44 s, itemN first last p ≠ []) : fieldOk first last s = true := by
  unfold fieldOk
  rw [List.all_eq_true]
  intro p hp
  have := h p hp
  cases hi : itemN first last p with
  | nil => exact absurd hi this
  | cons a l => rfl
theorem pieces_isB {c : UInt8} {s : ByteArray} {ps : List ByteArray} (h : ps.map (fun x : ByteArray => x.data.toList) = pieces c s.data.toList) : ps = piecesB c s := by
  have h2 := h.trans (piecesB_data c s).symm
  have hinj : Function.Injective (fun x : ByteArray => x.data.toList) := fun a b e => ba_ext e
  exact (List.map_inj_right (fun _ _ e => hinj e)).1 h2
theorem star_pieces : piecesB 44 star = [star] := (pieces_isB (ps := [star]) rfl).symm
theorem star_item (first last : Int) (h : first ≤ last) : itemN first last star = spreadN first last first last 1 := by
  have e : cutX 47 star = star := rfl
  have e2 : cutZ 47 star = false := rfl
  exact itemN_else (by unfold itBad; rw [e]; simp) (if_pos e) (if_pos e) (if_neg (by rw [e2]; simp))
def lim : Nat → Nat × Nat
  | 0 => (0, 59)
  | 1 => (0, 23)
  | 2 => (1, 31)
  | 3 => (1, 12)
  | _ => (0, 6)
theorem lim_le (k : Nat) : (lim k).1 ≤ (lim k).2 ∧ (lim k).2 ≤ 60 := by
  unfold lim; split <;> exact ⟨by decide, by decide⟩
set_option maxRecDepth 100000 in
theorem lim_all (k : Nat) : maskN (ticksF 100 ((lim k).1 : Int) ((lim k).2 : Int) 1) = allN (lim k).1 (lim k).2 := by
  unfold lim; split <;> decide +kernel
theorem star_field (k : Nat) : fieldOk (lim k).1 (lim k).2 star = true ∧ fieldN (lim k).1 (lim k).2 star = allN (lim k).1 (lim k).2 := by
  have hl := (lim_le k).1
  have h : itemN (lim k).1 (lim k).2 star = ticksF 100 ((lim k).1 : Int) ((lim k).2 : Int) 1 := by
    rw [star_item _ _ (by omega), spread_some (by omega) (by omega) (by omega)]
  refine ⟨?_, ?_⟩
  · unfold fieldOk
    rw [star_pieces, List.all_cons, h]
    obtain ⟨g, _, e⟩ := ticksF_more (f := 100) (n := ((lim k).1 : Int)) (hi := ((lim k).2 : Int)) (e := 1) (by have := (lim_le k).2; omega) (by omega)
    rw [e]; rfl
  · unfold fieldN itemsN
    rw [star_pieces]
    show maskN (itemN (lim k).1 (lim k).2 star ++ []) = _
    rw [List.append_nil, h, lim_all]
def pieceAt (ps : List ByteArray) (k : Nat) : ByteArray := ps.getD k ⟨#[]⟩
theorem pieceAt_get {ps : List ByteArray} {k : Nat} {p : ByteArray} (h : ps[k]? = some p) : pieceAt ps k = p := by unfold pieceAt; rw [List.getD_eq_getElem?_getD, h]; rfl
def fOk (ps : List ByteArray) (k : Nat) : Bool := fieldOk (lim k).1 (lim k).2 (pieceAt ps k)
def fM (ps : List ByteArray) (k : Nat) : Nat := fieldN (lim k).1 (lim k).2 (pieceAt ps k)
def isAny (ps : List ByteArray) (k : Nat) : Bool := (pieceAt ps k).toList == [42]
theorem fM_lt (ps : List ByteArray) (k : Nat) : fM ps k < 18446744073709551616 := mask_items_lt (lim_le k).2 _
def cronOk (s : ByteArray) : Bool := decide (s.size ≤ 300) && decide ((piecesB 32 s).length = 5) && (List.range 5).all (fOk (piecesB 32 s))
def cronCode (s : ByteArray) : Int := if 300 < s.size then 2 else if cronOk s = true then 0 else 3
theorem cronOk_bad {s : ByteArray} {k : Nat} (hk : k < 5) (h : fOk (piecesB 32 s) k = false) : cronOk s = false := by
  unfold cronOk
  have : (List.range 5).all (fOk (piecesB 32 s)) = false := by
    rw [List.all_eq_false]; exact ⟨k, List.mem_range.2 hk, by rw [h]; simp⟩
  rw [this]; simp
theorem cronOk_few {s : ByteArray} (h : (piecesB 32 s).length ≠ 5) : cronOk s = false := by unfold cronOk; simp [h]
theorem cronOk_good {s : ByteArray} (h0 : s.size ≤ 300) (h : (piecesB 32 s).length = 5) (hk : ∀ k < 5, fOk (piecesB 32 s) k = true) : cronOk s = true := by
  unfold cronOk
  rw [decide_eq_true h0, decide_eq_true h, show (List.range 5).all (fOk (piecesB 32 s)) = true from by rw [List.all_eq_true]; exact fun k hk2 => hk k (List.mem_range.1 hk2)]
  rfl
end Tide
namespace Go.Proofs.YtidonhndeohdlaaGreatDoor
open Go.RowKit
theorem digB_yes {b : UInt8} {x : Nat} (e : x = b.toNat) (h1 : 48 ≤ x) (h2 : x ≤ 57) : Tide.digB b = true := by subst e; unfold Tide.digB; rw [decide_eq_true h1, decide_eq_true h2]; rfl
theorem digB_low {b : UInt8} {x : Nat} (e : x = b.toNat) (h : x < 48) : Tide.digB b = false := by subst e; unfold Tide.digB; rw [decide_eq_false (by omega)]; rfl
theorem digB_high {b : UInt8} {x : Nat} (e : x = b.toNat) (h : 57 < x) : Tide.digB b = false := by subst e; unfold Tide.digB; rw [decide_eq_false (show ¬ b.toNat ≤ 57 by omega), Bool.and_false]
theorem dig_snoc {l : List UInt8} {k : Nat} {b : UInt8} {x : Nat} (hb : l[k]? = some b) (e : x = b.toNat) (h1 : 48 ≤ x) (h2 : x ≤ 57) (ha : (l.take k).all Tide.digB = true) : (l.take (k + 1)).all Tide.digB = true ∧ Tide.valL (l.take (k + 1)) = 10 * Tide.valL (l.take k) + ((x : Int) - 48) := by
  rw [Tide.take_of_get hb, List.all_append, ha, Tide.valL_snoc, e]
  refine ⟨?_, rfl⟩
  simp [digB_yes e h1 h2]
theorem u8_in (x : Int) (h0 : 0 ≤ x) (h1 : x ≤ 255) : IntKind.u8.wrap x = x := by rw [IntKind.wrap_u8]; omega
set_option maxHeartbeats 3200000 in
theorem cronNumber (s : ByteArray) (hs : s.size ≤ 1000000) (w : World) : Calls Tryz.prog 157 #[.string s] w fun e w' => e = .returned (.int .i64 (Tide.numL 2 s.data.toList)) ∧ w = w' := by
  have hz := Tide.ba_size s
  by_cases hl : s.size < 1
  · have HF := Lib.hid (Tide.numL_size (most := 2) (l := s.data.toList) (by omega))
    have hl2 : (s.size : Int) < 1 := by omega
    clear hl hz
    go_enter Tryz.func157, Tryz.ntmps157
    go_wp2_with fail
    go_ret
    exact ⟨by rw [HF.out] <;> rfl, rfl⟩
  by_cases hl3 : 2 < s.size
  · have HF := Lib.hid (Tide.numL_size (most := 2) (l := s.data.toList) (by omega))
    have hl2 : (2 : Int) < (s.size : Int) := by omega
    have hl4 : (1 : Int) ≤ (s.size : Int) := by omega
    clear hl hz hl3
    go_enter Tryz.func157, Tryz.ntmps157
    go_wp2_with fail
    go_ret
    exact ⟨by rw [HF.out] <;> rfl, rfl⟩
  have h1 : (1 : Int) ≤ (s.size : Int) := by omega
  have h2 : (s.size : Int) ≤ 2 := by omega
  have HZ := Lib.hid hz
  have HS1 := Lib.hid (show 1 ≤ s.size by omega); have HS2 := Lib.hid (show s.size ≤ 2 by omega)
  clear hz hl hl3 hs
  go_enter Tryz.func157, Tryz.ntmps157
  go_wp2_with fail
  go_loop [3, 15] (fun n i => ∃ k : Nat, k ≤ s.size ∧ i = .int .i64 k ∧ n = .int .i64 (Tide.valL (s.data.toList.take k)) ∧ Hid ((s.data.toList.take k).all Tide.digB = true)) (fun _ i => s.size - (intOf i).toNat)
  case atStart => exact ⟨0, by omega, rfl, rfl, Lib.hid rfl⟩
  case round =>
    obtain ⟨k, hk, rfl, rfl, HA⟩ := hrel
    by_cases hlt : k < s.size
    · have i0 : (0 : Int) ≤ (k : Int) := by omega
      have i1 : (k : Int) < (s.size : Int) := by omega
      obtain ⟨b, hb, hx⟩ := byte_get hlt
      have hv := Tide.valL_bd k (s.data.toList.take k) (by rw [List.length_take]; have := HZ.out; omega) HA.out
      have hv2 : Tide.valL (s.data.toList.take k) < 100 := by
        have e : (10 : Int) ^ k ≤ 10 ^ 2 := by exact_mod_cast Nat.pow_le_pow_right (show 0 < 10 by decide) (show k ≤ 2 by omega)
        have : (10 : Int) ^ 2 = 100 := by decide
        omega
      have hv0 := hv.1
      have HNx := Lib.hid (fun h1 h2 => dig_snoc hb hx h1 h2 HA.out)
      have HB1 := Lib.hid (fun h => Tide.numL_bad (most := 2) hb (digB_low hx h))
      have HB2 := Lib.hid (fun h => Tide.numL_bad (most := 2) hb (digB_high hx h))
      have HLt := Lib.hid hlt
      clear hv hb hx HA
      have e7 := byte_at hlt
      have hxb := byteAt_bd s k
      generalize Tide.valL (s.data.toList.take k) = n at HNx hv0 hv2 ⊢
      generalize byteAt s k = x at HNx HB1 HB2 hxb e7 ⊢
      have x0 : (0 : Int) ≤ (x : Int) := by omega
      by_cases a1 : x < 48
      · have HF := Lib.hid (HB1.out a1)
        have a2 : (x : Int) < 48 := by omega
        clear a1 HNx HB1 HB2
        go_wp2_with fail
        go_ret
        exact ⟨by rw [HF.out] <;> rfl, rfl⟩
      by_cases a2 : 57 < x
      · have HF := Lib.hid (HB2.out a2)
        have a3 : (57 : Int) < (x : Int) := by omega
        have a4 : (48 : Int) ≤ (x : Int) := by omega
        clear a1 a2 HNx HB1 HB2
        go_wp2_with fail
        go_ret
        exact ⟨by rw [HF.out] <;> rfl, rfl⟩
      · have HN := Lib.hid (HNx.out (by omega) (by omega))
        have a3 : (x : Int) ≤ 57 := by omega
        have a4 : (48 : Int) ≤ (x : Int) := by omega
        have q1 : IntKind.u8.wrap ((x : Int) - 48) = (x : Int) - 48 := u8_in _ (by omega) (by omega)
        have q2 : IntKind.i64.wrap ((x : Int) - 48) = (x : Int) - 48 := IntWalk.i64_in _ (by omega)
        have q3 : IntKind.i64.wrap (10 * n) = 10 * n := IntWalk.i64_in _ (by omega)
        have q4 : IntKind.i64.wrap (10 * n + ((x : Int) - 48)) = 10 * n + ((x : Int) - 48) := IntWalk.i64_in _ (by omega)
        clear a1 a2 HNx HB1 HB2
        go_wp2_with fail
        go_round
        case rel => exact ⟨k + 1, by have := HLt.out; omega, by go_num, by rw [HN.out.2], Lib.hid HN.out.1⟩
        case measure => have := HLt.out; simp [intOf]; omega
    · have hke : k = s.size := by omega
      subst hke
      have HF := Lib.hid (show Tide.numL 2 s.data.toList = Tide.valL (s.data.toList.take s.size) by
        have h3 := HA.out
        have e : s.data.toList.take s.size = s.data.toList := by rw [HZ.out, List.take_length]
        rw [e] at h3 ⊢
        exact Tide.numL_yes (by have := HZ.out; have := HS1.out; omega) (by have := HZ.out; have := HS2.out; omega) h3)
      clear hk hlt HA
      go_wp2_with fail
      go_ret
      exact ⟨by rw [HF.out] <;> rfl, rfl⟩
open Go.RowKit
structure Ends (first last : Int) (s : ByteArray) (lo hi : Int) : Prop where
  low : Tide.itLo first s = lo
  high : Tide.itHi last s = hi
  bad : Tide.itBad s = false
  b1 : -1 ≤ lo
  b2 : lo ≤ 100
  b3 : -1 ≤ hi
  b4 : hi ≤ 100
def ItemRun (f : Nat) (L : List Nat) (hi ev : Int) (n : Int) (D : List Nat) : Prop := D ++ Tide.ticksF f n hi ev = L ∧ hi - n < f
theorem ItemRun.more {f : Nat} {L D : List Nat} {n hi ev : Int} (h : ItemRun f L hi ev n D) (hl : n ≤ hi) (he : 1 ≤ ev) : ∃ g, f = g + 1 ∧ ItemRun g L hi ev (n + ev) (D ++ [n.toNat]) := by
  obtain ⟨g, rfl, e⟩ := Tide.ticksF_more h.2 hl
  refine ⟨g, rfl, ?_, by have := h.2; omega⟩
  rw [List.append_assoc, List.singleton_append, ← e]; exact h.1
theorem ItemRun.done {f : Nat} {L D : List Nat} {n hi ev : Int} (h : ItemRun f L hi ev n D) (hl : hi < n) : D = L := by
  have := h.1
  rwa [Tide.ticksF_none hl, List.append_nil] at this
theorem ItemRun.mem {f : Nat} {L D : List Nat} {n hi ev : Int} (h : ItemRun f L hi ev n D) {x : Nat} (hx : x ∈ D) : x ∈ L := by rw [← h.1]; exact List.mem_append_left _ hx
theorem numL2 (l : List UInt8) : -1 ≤ Tide.numL 2 l ∧ Tide.numL 2 l ≤ 100 := by
  have := Tide.numL_bd 2 l
  have e : (10 : Int) ^ 2 = 100 := by decide
  omega
theorem ne_star {x : ByteArray} (h : x ≠ Tide.star) : (x.toList == [42]) = false := by
  rw [beq_eq_false_iff_ne]
  intro e
  apply h
  apply Tide.ba_ext
  rw [← ByteArray.toList_eq x, e]; rfl
theorem eq_star {x : ByteArray} (h : x = Tide.star) : (x.toList == [42]) = true := by
  subst h; rw [ByteArray.toList_eq]; rfl
set_option maxRecDepth 100000 in
set_option maxHeartbeats 3200000 in
theorem cronItem (first last : Nat) (a b : Value) (s : ByteArray) (m : Int) (w : World) (hs : s.size ≤ 1000000) (hl1 : first ≤ 60) (hl : last ≤ 60) (hm : w.cell? ⟨1, 0, none⟩ = some (.int .i64 m)) :
    Calls Tryz.prog 140 #[.agg #[a, .int .i64 first, .int .i64 last, b], .string s] w fun e w' => e = .returned (.int .u64 (Tide.maskN (Tide.itemN first last s) : Nat)) ∧ Below w.heap.size w w' := by
  have hx := Tide.cutX_size 47 s
  have hmax := World.block_lt_of_cell? _ _ hm
  have HM := Lib.hid hm
  have HX := Lib.hid (show (Tide.cutX 47 s).size ≤ 1000000 by omega)
  have HS := Lib.hid hs
  have f3 : (first : Int) ≤ 60 := by omega
  have f0 : (0 : Int) ≤ (first : Int) := by omega
  have f1 : (0 : Int) ≤ (last : Int) := by omega
  have f2 : (last : Int) ≤ 60 := by omega
  clear hx hs hm
  go_enter Tryz.func140, Tryz.ntmps140
  go_wp2_with fail
  have hb0 := (Below.refl w.heap.size w).alloc (Nat.le_refl _) (.cells #[a, .int .i64 (first : Int), .int .i64 (last : Int), b] 108)
  refine (shlCut 47 s m _ HS.out ((hb0.cell (p := ⟨1, 0, none⟩) hmax).trans HM.out)).mono ?_
  rintro e w1 ⟨rfl, hb1⟩
  have HB := Lib.hid (hb0.trans (hb1.mono (by simp)))
  have hc1 := (hb1.cell (p := ⟨w.heap.size, 1, none⟩) (by simp)).trans (show (w.alloc (.cells #[a, .int .i64 (first : Int), .int .i64 (last : Int), b] 108)).cell? ⟨w.heap.size, 1, none⟩ = some (.int .i64 (first : Int)) by simp)
  have hc2 := (hb1.cell (p := ⟨w.heap.size, 2, none⟩) (by simp)).trans (show (w.alloc (.cells #[a, .int .i64 (first : Int), .int .i64 (last : Int), b] 108)).cell? ⟨w.heap.size, 2, none⟩ = some (.int .i64 (last : Int)) by simp)
  have hlt := hb1.size
  clear hb0 hb1
  have hX : ⟨(Tide.cutB 47 s.data.toList).1.toArray⟩ = Tide.cutX 47 s := rfl
  have hY : ⟨(Tide.cutB 47 s.data.toList).2.1.toArray⟩ = Tide.cutY 47 s := rfl
  have hZ : (Tide.cutB 47 s.data.toList).2.2 = Tide.cutZ 47 s := rfl
  rw [hX, hY, hZ]
  clear hX hY hZ
  obtain ⟨t, HT⟩ : ∃ t, Hid (Tide.cutZ 47 s = t) := ⟨_, Lib.hid rfl⟩
  rw [HT.out]
  go_wp2_with fail
  go_quiet (fail)
  have hc3 : (w1.drewN nq).cell? ⟨w.heap.size, 1, none⟩ = some (.int .i64 (first : Int)) := hc1
  have hc4 : (w1.drewN nq).cell? ⟨w.heap.size, 2, none⟩ = some (.int .i64 (last : Int)) := hc2
  have HB2 := Lib.hid (below_drewN HB.out nq)
  have hlt2 : w.heap.size + 1 ≤ (w1.drewN nq).heap.size := by simpa using hlt
  clear hc1 hc2 HB hlt
  generalize w1.drewN nq = w2 at hc3 hc4 HB2 hlt2 ⊢
  go_upto_if 27 with (fail)
  go_cut [8, 9] (fun x y wx => ∃ lo hi : Int, x = .int .i64 lo ∧ y = .int .i64 hi ∧ Hid (Ends first last s lo hi) ∧ Hid (Below w2.heap.size w2 wx))
  case first =>
    by_cases hst : Tide.cutX 47 s = Tide.star
    · have HF := Lib.hid (show Ends first last s first last from ⟨if_pos hst, if_pos hst, by unfold Tide.itBad; rw [hst]; rfl, by omega, by omega, by omega, by omega⟩)
      rw [eq_star hst, Bool.not_true]
      clear hst
      go_wp2_with fail
      go_meet
      exact ⟨_, _, rfl, rfl, HF, Lib.hid (Below.refl _ _)⟩
    · rw [ne_star hst, Bool.not_false]
      have hx1 := Tide.cutX_size 45 (Tide.cutX 47 s); have hx2 := Tide.cutY_size 45 (Tide.cutX 47 s)
      have HX1 := Lib.hid (show (Tide.cutX 45 (Tide.cutX 47 s)).size ≤ 1000000 by have := HX.out; omega)
      have HX2 := Lib.hid (show (Tide.cutY 45 (Tide.cutX 47 s)).size ≤ 1000000 by have := HX.out; omega)
      have HST := Lib.hid hst
      clear hst hx1 hx2
      go_wp2_with fail
      refine (shlCut 45 (Tide.cutX 47 s) m _ HX.out ((HB2.out.cell (p := ⟨1, 0, none⟩) hmax).trans HM.out)).mono ?_
      rintro e w3 ⟨rfl, hb3⟩
      have HB3 := Lib.hid hb3
      clear hb3
      have hX : ⟨(Tide.cutB 45 (Tide.cutX 47 s).data.toList).1.toArray⟩ = Tide.cutX 45 (Tide.cutX 47 s) := rfl
      have hY : ⟨(Tide.cutB 45 (Tide.cutX 47 s).data.toList).2.1.toArray⟩ = Tide.cutY 45 (Tide.cutX 47 s) := rfl
      have hZ : (Tide.cutB 45 (Tide.cutX 47 s).data.toList).2.2 = Tide.cutZ 45 (Tide.cutX 47 s) := rfl
      rw [hX, hY, hZ]
      clear hX hY hZ
      go_wp2_with fail
      refine (cronNumber _ HX1.out _).mono ?_
      rintro e w4 ⟨rfl, rfl⟩
      cases hr : Tide.cutZ 45 (Tide.cutX 47 s) with
      | true =>
        go_wp2_with fail
        refine (cronNumber _ HX2.out _).mono ?_
        rintro e w4 ⟨rfl, rfl⟩
        have h1 := numL2 (Tide.cutX 45 (Tide.cutX 47 s)).data.toList; have h2 := numL2 (Tide.cutY 45 (Tide.cutX 47 s)).data.toList
        have HF := Lib.hid (show Ends first last s (Tide.numL 2 (Tide.cutX 45 (Tide.cutX 47 s)).data.toList) (Tide.numL 2 (Tide.cutY 45 (Tide.cutX 47 s)).data.toList) from ⟨if_neg HST.out, by unfold Tide.itHi; rw [if_neg HST.out, if_pos hr], by unfold Tide.itBad; rw [hr]; simp, h1.1, h1.2, h2.1, h2.2⟩)
        generalize Tide.numL 2 (Tide.cutX 45 (Tide.cutX 47 s)).data.toList = lo at HF h1 ⊢
        generalize Tide.numL 2 (Tide.cutY 45 (Tide.cutX 47 s)).data.toList = hi at HF h2 ⊢
        cases t with
        | true =>
          go_wp2_with fail
          go_meet
          exact ⟨_, _, rfl, rfl, HF, HB3⟩
        | false =>
          go_wp2_with fail
          go_meet
          exact ⟨_, _, rfl, rfl, HF, HB3⟩
      | false =>
        cases t with
        | true =>
          have HF := Lib.hid (show Tide.itemN (first : Int) (last : Int) s = [] from Tide.itemN_bad (by unfold Tide.itBad; rw [hr, HT.out]; simp [HST.out]))
          have HG := Lib.hid (HB2.out.trans (HB3.out.mono (by omega)))
          go_wp2_with fail
          go_ret
          exact ⟨by rw [HF.out]; rfl, HG.out⟩
        | false =>
          have h1 := numL2 (Tide.cutX 45 (Tide.cutX 47 s)).data.toList
          have HF := Lib.hid (show Ends first last s (Tide.numL 2 (Tide.cutX 45 (Tide.cutX 47 s)).data.toList) (Tide.numL 2 (Tide.cutX 45 (Tide.cutX 47 s)).data.toList) from ⟨if_neg HST.out, by unfold Tide.itHi; rw [if_neg HST.out, if_neg (by rw [hr]; simp)], by unfold Tide.itBad; rw [HT.out]; simp, h1.1, h1.2, h1.1, h1.2⟩)
          generalize Tide.numL 2 (Tide.cutX 45 (Tide.cutX 47 s)).data.toList = lo at HF h1 ⊢
          go_wp2_with fail
          go_meet
          exact ⟨_, _, rfl, rfl, HF, HB3⟩
  case rest =>
    obtain ⟨lo, hi, rfl, rfl, HE, HB3⟩ := hcut
    have HY := Lib.hid (show (Tide.cutY 47 s).size ≤ 1000000 by have := Tide.cutY_size 47 s; have := HS.out; omega)
    have hc1 := (HB3.out.cell (p := ⟨w.heap.size, 1, none⟩) (by show w.heap.size < _; omega)).trans hc3
    have hc2 := (HB3.out.cell (p := ⟨w.heap.size, 2, none⟩) (by show w.heap.size < _; omega)).trans hc4
    have HB := Lib.hid (HB2.out.trans (HB3.out.mono (by omega)))
    have b1 := HE.out.b1; have b2 := HE.out.b2; have b3 := HE.out.b3; have b4 := HE.out.b4
    clear hc3 hc4 HB2 HB3 hlt2
    go_upto_if 45 with (fail)
    go_cut [10] (fun x wy => ∃ ev : Int, x = .int .i64 ev ∧ Hid (Tide.itEv s = ev) ∧ -1 ≤ ev ∧ ev ≤ 100 ∧ wc = wy)
    case first =>
      cases t with
      | true =>
        have h1 := numL2 (Tide.cutY 47 s).data.toList
        have HF := Lib.hid (show Tide.itEv s = Tide.numL 2 (Tide.cutY 47 s).data.toList from if_pos HT.out)
        go_wp2_with fail
        refine (cronNumber _ HY.out _).mono ?_
        rintro e w4 ⟨rfl, rfl⟩
        generalize Tide.numL 2 (Tide.cutY 47 s).data.toList = ev at HF h1 ⊢
        go_wp2_with fail
        go_meet
        exact ⟨ev, rfl, HF, h1.1, h1.2, rfl⟩
      | false =>
        have HF := Lib.hid (show Tide.itEv s = 1 from if_neg (by rw [HT.out]; simp))
        go_wp2_with fail
        go_meet
        exact ⟨1, rfl, HF, by omega, by omega, rfl⟩
    case rest =>
      obtain ⟨ev, rfl, HV, e1, e2, rfl⟩ := hcut
      have HI := Lib.hid (Tide.itemN_else HE.out.bad HE.out.low HE.out.high HV.out)
      have HZ := Lib.hid (fun h => (HI.out.trans (Tide.spread_none h) : Tide.itemN (first : Int) (last : Int) s = []))
      by_cases a1 : lo < first
      · have HF := Lib.hid (HZ.out (.inl a1))
        go_wp2_with fail
        go_ret
        exact ⟨by rw [HF.out]; rfl, HB.out⟩
      by_cases a2 : (last : Int) < hi
      · have HF := Lib.hid (HZ.out (.inr (.inl a2)))
        have a3 : (first : Int) ≤ lo := by omega
        go_wp2_with fail
        go_ret
        exact ⟨by rw [HF.out]; rfl, HB.out⟩
      by_cases a3 : ev < 1
      · have HF := Lib.hid (HZ.out (.inr (.inr a3)))
        have a4 : (first : Int) ≤ lo := by omega
        have a5 : hi ≤ (last : Int) := by omega
        go_wp2_with fail
        go_ret
        exact ⟨by rw [HF.out]; rfl, HB.out⟩
      have a4 : (first : Int) ≤ lo := by omega
      have a5 : hi ≤ (last : Int) := by omega
      have a6 : 1 ≤ ev := by omega
      have HL := Lib.hid (HI.out.trans (Tide.spread_some a4 a5 a6))
      have HIn := Lib.hid (fun (n : Nat) (hn : n ∈ Tide.ticksF 100 lo hi ev) => (show n ≤ 60 by have := Tide.itemN_in (first := (first : Int)) (last := (last : Int)) (s := s) f0 n (by rw [HL.out]; exact hn); omega))
      have HR := Lib.hid (show ItemRun 100 (Tide.ticksF 100 lo hi ev) hi ev lo [] from ⟨rfl, by omega⟩)
      clear a1 a2 a3 HI HZ
      generalize Tide.ticksF 100 lo hi ev = L at HL HIn HR
      go_wp2_with fail
      go_loop [14, 15] (fun x y => ∃ (f : Nat) (n : Int) (D : List Nat), y = .int .i64 n ∧ x = .int .u64 (Tide.maskN D : Nat) ∧ 0 ≤ n ∧ f ≤ 100 ∧ Hid (ItemRun f L hi ev n D)) (fun x y => (61 - intOf y).toNat)
      case atStart => exact ⟨100, lo, [], rfl, rfl, by omega, by omega, HR⟩
      case round =>
        obtain ⟨f, n, D, rfl, rfl, n0, nf, HR1⟩ := hrel
        by_cases hlt : n ≤ hi
        · obtain ⟨k, rfl⟩ := Int.eq_ofNat_of_zero_le n0
          have hk : k ≤ 60 := by omega
          obtain ⟨g, hg, hn⟩ := HR1.out.more hlt a6
          have HN := Lib.hid hn
          have hD : ∀ x ∈ D, x ≤ 60 := fun x hx => HIn.out x (HR1.out.mem hx)
          have HO := Lib.hid (Tide.or_u64 _ _ (Tide.maskN_lt hD) (show 2 ^ k < 18446744073709551616 from Nat.lt_of_le_of_lt (Nat.pow_le_pow_right (by omega) hk) (by decide)))
          have HP := Lib.hid (pow_u64 (show k ≤ 62 by omega))
          clear hn hD HR1
          go_wp2_with fail
          go_round
          case rel =>
            refine ⟨g, (k : Int) + ev, D ++ [(k : Int).toNat], by go_num, ?_, by omega, by omega, HN⟩
            rw [HP.out, HO.out, Tide.maskN_snoc]; rfl
          case measure => simp [intOf]; omega
        · have HF := Lib.hid (show D = Tide.itemN (first : Int) (last : Int) s from by rw [HL.out]; exact HR1.out.done (by omega))
          go_wp2_with fail
          go_ret
          exact ⟨by rw [HF.out] <;> rfl, HB.out⟩
end Go.Proofs.YtidonhndeohdlaaGreatDoor
