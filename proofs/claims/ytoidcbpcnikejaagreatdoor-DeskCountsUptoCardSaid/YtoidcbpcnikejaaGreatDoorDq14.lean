/- Parts of this claim: TxtN, TxtW, TxtI, TxtF, TxtP, PrdM, LinC, RdnC, CrnI. -/
import Derived.Shelf.Strings.PiecesUse
import Derived.Lib.Join
import Derived.Lib.ItoaNum
import Derived.Lib.SlicesS
import Derived.Lib.ItoaLen
import Derived.Test.YtoidcbpcnikejaaGreatDoorDqShelf
import Derived.Test.YtoidcbpcnikejaaGreatDoorDq11
set_option linter.unusedVariables false
set_option linter.unusedSimpArgs false
set_option maxRecDepth 100000
set_option maxHeartbeats 12800000
namespace G
open Go
def digB (b : UInt8) : Bool := decide (48 ≤ b.toNat) && decide (b.toNat ≤ 57)
def valL (l : List UInt8) : Int := l.foldl (fun n b => 10 * n + ((b.toNat : Int) - 48)) 0
def numL (most : Nat) (l : List UInt8) : Int := if 1 ≤ l.length ∧ l.length ≤ most ∧ l.all digB = true then valL l else -1
theorem valL_snoc (l : List UInt8) (b : UInt8) : valL (l ++ [b]) = 10 * valL l + ((b.toNat : Int) - 48) := by unfold valL; rw [List.foldl_append]; rfl
theorem valL_bd : ∀ (n : Nat) (l : List UInt8), l.length = n → l.all digB = true → 0 ≤ valL l ∧ valL l < 10 ^ n := by
 intro n
 induction n with
 | zero => intro l h _; obtain rfl : l = [] := List.length_eq_zero_iff.1 h; exact ⟨by decide, by decide⟩
 | succ n ih =>
  intro l h ha
  have hne : l ≠ [] := by intro e; rw [e] at h; simp at h
  have e := List.dropLast_concat_getLast hne
  have h1 : l.dropLast.length = n := by rw [List.length_dropLast, h]; rfl
  rw [← e, List.all_append, Bool.and_eq_true] at ha
  have hb := ha.2
  simp only [List.all_cons, List.all_nil, Bool.and_true] at hb
  unfold digB at hb
  rw [Bool.and_eq_true, decide_eq_true_eq, decide_eq_true_eq] at hb
  have := ih _ h1 ha.1
  rw [← e, valL_snoc]
  have e10 : (10 : Int) ^ (n + 1) = 10 * 10 ^ n := by rw [Int.pow_succ, Int.mul_comm]
  rw [e10]
  omega
theorem numL_yes {most : Nat} {l : List UInt8} (h1 : 1 ≤ l.length) (h2 : l.length ≤ most) (h3 : l.all digB = true) : numL most l = valL l := by unfold numL; rw [if_pos ⟨h1, h2, h3⟩]
theorem numL_size {most : Nat} {l : List UInt8} (h : l.length < 1 ∨ most < l.length) : numL most l = -1 := by unfold numL; rw [if_neg (by omega)]
theorem numL_bad {most : Nat} {l : List UInt8} {k : Nat} {b : UInt8} (h : l[k]? = some b) (hb : digB b = false) : numL most l = -1 := by
 unfold numL
 rw [if_neg]
 rintro ⟨_, _, h3⟩
 rw [List.all_eq_true] at h3
 rw [h3 b (List.mem_of_getElem? h)] at hb; cases hb
theorem numL_bd (most : Nat) (l : List UInt8) : -1 ≤ numL most l ∧ numL most l < 10 ^ most := by
 unfold numL
 split
 ·rename_i h
  have := valL_bd l.length l rfl h.2.2
  have h2 : (10 : Int) ^ l.length ≤ 10 ^ most := by
   have := Nat.pow_le_pow_right (show 0 < 10 by decide) h.2.1
   exact_mod_cast this
  omega
 have : (0 : Int) < 10 ^ most := by exact_mod_cast Nat.pow_pos (n := most) (show 0 < 10 by decide)
 omega
def piecesB (c : UInt8) (s : ByteArray) : List ByteArray := Lib.splitB ⟨#[c]⟩ 0 (Lib.countB s ⟨#[c]⟩) s
theorem piecesB_data (c : UInt8) (s : ByteArray) : (piecesB c s).map (·.data.toList) = pieces c s.data.toList := split_is c s
theorem piecesB_length (c : UInt8) (s : ByteArray) : (piecesB c s).length = Lib.countB s ⟨#[c]⟩ + 1 := Lib.splitB_all ⟨#[c]⟩ (Nat.le_refl 1) 0 _ s rfl
theorem piecesB_many (c : UInt8) (s : ByteArray) : (piecesB c s).length = (pieces c s.data.toList).length := by rw [← piecesB_data, List.length_map]
theorem ba_size (s : ByteArray) : s.size = s.data.toList.length := by rw [Array.length_toList]; rfl
theorem piecesB_le {c : UInt8} {s x : ByteArray} (h : x ∈ piecesB c s) : x.size ≤ s.size := by
 have h1 : x.data.toList ∈ pieces c s.data.toList := by rw [← piecesB_data]; exact List.mem_map_of_mem h
 have := pieces_le c _ _ h1
 rw [ba_size, ba_size]; exact this
theorem piecesB_few (c : UInt8) (s : ByteArray) : (piecesB c s).length ≤ s.size + 1 := by
 rw [piecesB_many, pieces_many, ba_size]
 have := List.count_le_length (a := c) (l := s.data.toList)
 omega
end G
namespace Go.Proofs.YtoidcbpcnikejaaGreatDoor
open Go.RowKit
theorem byte_get {s : ByteArray} {k : Nat} (h : k < s.size) : ∃ b : UInt8, s.data.toList[k]? = some b ∧ byteAt s k = b.toNat := by
 have h' : k < s.data.size := h
 refine ⟨s.data[k], by rw [Array.getElem?_toList, Array.getElem?_eq_getElem h'], ?_⟩
 unfold byteAt
 rw [Array.getElem?_eq_getElem h']; rfl
theorem shlSplit (c : UInt8) (s : ByteArray) (m : Int) (w : World) (hs : s.size ≤ 1000000) (hm : w.cell? ⟨0, 0, none⟩ = some (.int .i64 m)) :
  Calls Tryz.prog 11 #[.string s, .string ⟨#[c]⟩] w fun e w' => e = .returned (.slice (some ⟨w.heap.size, 0, none⟩) (G.piecesB c s).length (G.piecesB c s).length) ∧ w' = w.alloc (.cells ((G.piecesB c s).map Value.string).toArray 9) := by
 rw [G.piecesB_length]
 exact Tryz.strings_Split s ⟨#[c]⟩ m w (by omega) hm (Nat.le_refl 1)
theorem shlCut (c : UInt8) (s : ByteArray) (m : Int) (w : World) (hs : s.size ≤ 1000000) (hm : w.cell? ⟨0, 0, none⟩ = some (.int .i64 m)) :
  Calls Tryz.prog 150 #[.string s, .string ⟨#[c]⟩] w fun e w' => e = .returned (.tuple #[.string ⟨(G.cutB c s.data.toList).1.toArray⟩, .string ⟨(G.cutB c s.data.toList).2.1.toArray⟩, .bool (G.cutB c s.data.toList).2.2]) ∧ Below w.heap.size w w' := by
 have h := Tryz.strings_Cut s ⟨#[c]⟩ m w (by omega) hm
 have e : Lib.cut s.data.toList (⟨#[c]⟩ : ByteArray).data.toList = G.cutB c s.data.toList := G.cut_is c _
 rw [e] at h
 exact h.mono fun _ _ ⟨h1, n, h2⟩ => ⟨h1, by rw [h2]; exact below_drewN (Below.refl _ _) n⟩
end Go.Proofs.YtoidcbpcnikejaaGreatDoor
namespace G
open Go
def minusL (l : List UInt8) : Bool := l.head? == some 45
def digsL (l : List UInt8) : List UInt8 := if minusL l then l.tail else l
def wholeOk (most : Nat) (l : List UInt8) : Bool := decide (0 ≤ numL most (digsL l)) && !(decide (1 < (digsL l).length) && (digsL l).head? == some 48) && !(minusL l && decide (numL most (digsL l) = 0))
def wholeV (most : Nat) (l : List UInt8) : Int := if minusL l then -numL most (digsL l) else numL most (digsL l)
theorem valL_fold (l : List UInt8) (n : Int) : l.foldl (fun n b => 10 * n + ((b.toNat : Int) - 48)) n = n * 10 ^ l.length + valL l := by
 induction l generalizing n with
 | nil => simp [valL]
 | cons b l ih =>
  show l.foldl _ (10 * n + ((b.toNat : Int) - 48)) = _
  have e : valL (b :: l) = ((b.toNat : Int) - 48) * 10 ^ l.length + valL l := by
   show l.foldl _ (10 * 0 + ((b.toNat : Int) - 48)) = _
   rw [ih]; simp
  rw [ih, e, List.length_cons, Int.pow_succ, Int.add_mul, Int.add_assoc]
  congr 1
  rw [Int.mul_comm 10 n, Int.mul_assoc, Int.mul_comm 10]
theorem valL_cons (b : UInt8) (l : List UInt8) : valL (b :: l) = ((b.toNat : Int) - 48) * 10 ^ l.length + valL l := by
 show l.foldl _ (10 * 0 + ((b.toNat : Int) - 48)) = _
 rw [valL_fold]; simp
theorem valL_pos {b : UInt8} {l : List UInt8} (h : (b :: l).all digB = true) (hb : b ≠ 48) : 0 < valL (b :: l) := by
 rw [List.all_cons, Bool.and_eq_true] at h
 have h1 := h.1
 unfold digB at h1
 rw [Bool.and_eq_true, decide_eq_true_eq, decide_eq_true_eq] at h1
 have h2 := (valL_bd l.length l rfl h.2).1
 have h3 : b.toNat ≠ 48 := fun e => hb (UInt8.toNat_inj.1 (by rw [e]; rfl))
 have h4 : (0 : Int) < 10 ^ l.length := by exact_mod_cast Nat.pow_pos (n := l.length) (show 0 < 10 by decide)
 have h5 : 0 < ((b.toNat : Int) - 48) * 10 ^ l.length := Int.mul_pos (by omega) h4
 rw [valL_cons]
 omega
theorem wholeOk_is (most : Nat) (l : List UInt8) : wholeOk most l = (decide (1 ≤ (digsL l).length) && decide ((digsL l).length ≤ most) && !((digsL l).head? == some 48 && (decide (1 < (digsL l).length) || minusL l)) && (digsL l).all digB) := by
 unfold wholeOk
 generalize digsL l = d
 by_cases hc : 1 ≤ d.length ∧ d.length ≤ most ∧ d.all digB = true
 ·obtain ⟨h1, h2, h3⟩ := hc
  have hv := numL_yes h1 h2 h3
  have hp := (valL_bd d.length d rfl h3).1
  rw [hv, decide_eq_true hp, decide_eq_true h1, decide_eq_true h2, h3]
  match d, h1 with
  | b :: t, _ =>
   by_cases hb : b = 48
   ·subst hb
    cases t with
    | nil => cases minusL l <;> rfl
    | cons c t => simp
   have hpos := valL_pos h3 hb
   rw [decide_eq_false (show ¬ valL (b :: t) = 0 by omega)]
   have hb2 : (b == (48 : UInt8)) = false := by simpa using hb
   simp [hb2]
 have hn : numL most d = -1 := by unfold numL; rw [if_neg hc]
 rw [hn]
 have : (decide (1 ≤ d.length) && decide (d.length ≤ most) && d.all digB) = false := by
  cases h : (decide (1 ≤ d.length) && decide (d.length ≤ most) && d.all digB) with
  | false => rfl
  | true =>
   rw [Bool.and_eq_true, Bool.and_eq_true, decide_eq_true_eq, decide_eq_true_eq] at h
   exact absurd ⟨h.1.1, h.1.2, h.2⟩ hc
 have e2 : ∀ x : Bool, (decide (1 ≤ d.length) && decide (d.length ≤ most) && x && d.all digB) = false := fun x => by
  cases x
  ·simp
  simpa using this
 rw [e2]
 rfl
end G
namespace G
open Go
def cutX (c : UInt8) (s : ByteArray) : ByteArray := ⟨(cutB c s.data.toList).1.toArray⟩
def cutY (c : UInt8) (s : ByteArray) : ByteArray := ⟨(cutB c s.data.toList).2.1.toArray⟩
def cutZ (c : UInt8) (s : ByteArray) : Bool := (cutB c s.data.toList).2.2
theorem ba_ext {a b : ByteArray} (h : a.data.toList = b.data.toList) : a = b := by
 cases a with | mk x => cases b with | mk y =>
  congr 1
  exact Array.ext' h
theorem cutB_size (c : UInt8) : ∀ l : List UInt8, (cutB c l).1.length ≤ l.length ∧ (cutB c l).2.1.length ≤ l.length
 | [] => ⟨Nat.le_refl _, Nat.le_refl _⟩
 | b :: l => by
  have ih := cutB_size c l
  by_cases h : b = c
  ·subst h; rw [cutB_eq]; exact ⟨Nat.zero_le _, Nat.le_succ _⟩
  rw [cutB_ne h]
  exact ⟨by show (b :: (cutB c l).1).length ≤ (b :: l).length; simp only [List.length_cons]; omega, by show (cutB c l).2.1.length ≤ (b :: l).length; simp only [List.length_cons]; omega⟩
theorem cutX_size (c : UInt8) (s : ByteArray) : (cutX c s).size ≤ s.size := by
 rw [ba_size, ba_size]; exact (cutB_size c _).1
theorem cutY_size (c : UInt8) (s : ByteArray) : (cutY c s).size ≤ s.size := by
 rw [ba_size, ba_size]; exact (cutB_size c _).2
def ticksF : Nat → Int → Int → Int → List Nat
 | 0, _, _, _ => []
 | f + 1, n, hi, e => if n ≤ hi then n.toNat :: ticksF f (n + e) hi e else []
theorem ticksF_more {f : Nat} {n hi e : Int} (hf : hi - n < f) (h : n ≤ hi) : ∃ g, f = g + 1 ∧ ticksF f n hi e = n.toNat :: ticksF g (n + e) hi e := by
 cases f with
 | zero => omega
 | succ g => exact ⟨g, rfl, if_pos h⟩
theorem ticksF_none {f : Nat} {n hi e : Int} (h : hi < n) : ticksF f n hi e = [] := by
 cases f with
 | zero => rfl
 | succ g => exact if_neg (by omega)
theorem ticksF_in : ∀ (f : Nat) (n hi e : Int), 0 ≤ n → 1 ≤ e → ∀ x ∈ ticksF f n hi e, n ≤ x ∧ (x : Int) ≤ hi
 | 0, _, _, _, _, _, x, hx => by simp [ticksF] at hx
 | f + 1, n, hi, e, h0, h1, x, hx => by
  replace hx : x ∈ (if n ≤ hi then n.toNat :: ticksF f (n + e) hi e else []) := hx
  split at hx
  ·rcases List.mem_cons.1 hx with rfl | hx
   ·omega
   have := ticksF_in f (n + e) hi e (by omega) h1 x hx
   omega
  cases hx
def star : ByteArray := ⟨#[42]⟩
def itLo (first : Int) (s : ByteArray) : Int := if cutX 47 s = star then first else numL 2 (cutX 45 (cutX 47 s)).data.toList
def itHi (last : Int) (s : ByteArray) : Int := if cutX 47 s = star then last else if cutZ 45 (cutX 47 s) = true then numL 2 (cutY 45 (cutX 47 s)).data.toList else numL 2 (cutX 45 (cutX 47 s)).data.toList
def itEv (s : ByteArray) : Int := if cutZ 47 s = true then numL 2 (cutY 47 s).data.toList else 1
def itBad (s : ByteArray) : Bool := decide (cutX 47 s ≠ star) && cutZ 47 s && !cutZ 45 (cutX 47 s)
def spreadN (first last lo hi ev : Int) : List Nat := if lo < first ∨ last < hi ∨ ev < 1 then [] else ticksF 100 lo hi ev
def itemN (first last : Int) (s : ByteArray) : List Nat := if itBad s = true then [] else spreadN first last (itLo first s) (itHi last s) (itEv s)
theorem itemN_bad {first last : Int} {s : ByteArray} (h : itBad s = true) : itemN first last s = [] := by unfold itemN; rw [if_pos h]
theorem itemN_else {first last lo hi ev : Int} {s : ByteArray} (h : itBad s = false) (h1 : itLo first s = lo) (h2 : itHi last s = hi) (h3 : itEv s = ev) : itemN first last s = spreadN first last lo hi ev := by
 unfold itemN; rw [if_neg (by rw [h]; simp), h1, h2, h3]
theorem spread_none {first last lo hi ev : Int} (h : lo < first ∨ last < hi ∨ ev < 1) : spreadN first last lo hi ev = [] := by unfold spreadN; rw [if_pos h]
theorem spread_some {first last lo hi ev : Int} (h1 : first ≤ lo) (h2 : hi ≤ last) (h3 : 1 ≤ ev) : spreadN first last lo hi ev = ticksF 100 lo hi ev := by unfold spreadN; rw [if_neg (by omega)]
theorem itemN_in {first last : Int} {s : ByteArray} (h0 : 0 ≤ first) : ∀ n ∈ itemN first last s, first ≤ (n : Int) ∧ (n : Int) ≤ last := by
 intro n hn
 unfold itemN at hn
 split at hn
 ·cases hn
 unfold spreadN at hn
 split at hn
 ·cases hn
 rename_i h
 have := ticksF_in 100 _ _ _ (by omega) (by omega) n hn
 omega
def maskN (ns : List Nat) : Nat := ns.foldl (fun m n => m ||| 2 ^ n) 0
theorem maskN_snoc (ns : List Nat) (n : Nat) : maskN (ns ++ [n]) = maskN ns ||| 2 ^ n := by unfold maskN; rw [List.foldl_append]; rfl
theorem fold_or : ∀ (ns : List Nat) (m : Nat), ns.foldl (fun m n => m ||| 2 ^ n) m = m ||| maskN ns
 | [], m => by simp [maskN]
 | n :: ns, m => by
  show ns.foldl _ (m ||| 2 ^ n) = _
  rw [fold_or ns, show maskN (n :: ns) = ns.foldl (fun m n => m ||| 2 ^ n) (0 ||| 2 ^ n) from rfl, fold_or ns (0 ||| 2 ^ n), Nat.zero_or, Nat.or_assoc]
theorem maskN_append (a b : List Nat) : maskN (a ++ b) = maskN a ||| maskN b := by
 show (a ++ b).foldl _ 0 = _
 rw [List.foldl_append, fold_or]; rfl
theorem maskN_lt {ns : List Nat} (h : ∀ n ∈ ns, n ≤ 60) : maskN ns < 18446744073709551616 := by
 suffices ∀ (ns : List Nat) (m : Nat), m < 2 ^ 64 → (∀ n ∈ ns, n ≤ 60) → ns.foldl (fun m n => m ||| 2 ^ n) m < 2 ^ 64 from this ns 0 (by decide) h
 intro ns
 induction ns with
 | nil => intro m hm _; exact hm
 | cons n ns ih =>
  intro m hm h
  exact ih _ (Nat.or_lt_two_pow hm (Nat.pow_lt_pow_right (by decide) (by have := h n (by simp); omega))) (fun x hx => h x (List.mem_cons_of_mem _ hx))
theorem maskN_zero {ns : List Nat} (h : maskN ns = 0) : ns = [] := by
 cases ns with
 | nil => rfl
 | cons n ns =>
  exfalso
  rw [show maskN (n :: ns) = ns.foldl (fun m n => m ||| 2 ^ n) (0 ||| 2 ^ n) from rfl, fold_or, Nat.zero_or] at h
  have := congrArg (fun m => m.testBit n) h
  simp [Nat.testBit_two_pow_self] at this
theorem or_u64 (a b : Nat) (ha : a < 18446744073709551616) (hb : b < 18446744073709551616) : bits .or .u64 (a : Int) (b : Int) = ((a ||| b : Nat) : Int) := by
 show IntKind.u64.wrap ((BitVec.ofInt 64 (a : Int) ||| BitVec.ofInt 64 (b : Int)).toNat : Int) = _
 rw [BitVec.toNat_or, ofInt_u64 a ha, ofInt_u64 b hb]
 exact wrap_u64_nat _ (Nat.or_lt_two_pow (n := 64) ha hb)
end G
namespace G
open Go
def itemsN (first last : Int) (ps : List ByteArray) : List Nat := ps.flatMap (itemN first last)
def fieldOk (first last : Int) (s : ByteArray) : Bool := (piecesB 44 s).all (fun p => !(itemN first last p).isEmpty)
def fieldN (first last : Int) (s : ByteArray) : Nat := maskN (itemsN first last (piecesB 44 s))
theorem itemsN_snoc (first last : Int) (ps : List ByteArray) (p : ByteArray) : itemsN first last (ps ++ [p]) = itemsN first last ps ++ itemN first last p := by
 unfold itemsN; rw [List.flatMap_append]; simp
theorem itemsN_le {first last : Nat} (hl : last ≤ 60) (ps : List ByteArray) : ∀ n ∈ itemsN first last ps, n ≤ 60 := by
 intro n hn
 obtain ⟨p, _, h⟩ := List.mem_flatMap.1 hn
 have := itemN_in (first := (first : Int)) (last := (last : Int)) (s := p) (by omega) n h
 omega
theorem mask_items_lt {first last : Nat} (hl : last ≤ 60) (ps : List ByteArray) : maskN (itemsN first last ps) < 18446744073709551616 := maskN_lt (itemsN_le hl ps)
theorem fieldOk_bad {first last : Int} {s p : ByteArray} {k : Nat} (h : (piecesB 44 s)[k]? = some p) (he : itemN first last p = []) : fieldOk first last s = false := by
 unfold fieldOk
 rw [List.all_eq_false]
 exact ⟨p, List.mem_of_getElem? h, by rw [he]; simp⟩
theorem fieldOk_good {first last : Int} {s : ByteArray} (h : ∀ p ∈ piecesB 44 s, itemN first last p ≠ []) : fieldOk first last s = true := by
 unfold fieldOk
 rw [List.all_eq_true]
 intro p hp
 have := h p hp
 cases hi : itemN first last p with
 | nil => exact absurd hi this
 | cons a l => rfl
theorem pieces_isB {c : UInt8} {s : ByteArray} {ps : List ByteArray} (h : ps.map (fun x : ByteArray => x.data.toList) = pieces c s.data.toList) : ps = piecesB c s := by
 have h2 := h.trans (piecesB_data c s).symm
 have hinj : Function.Injective (fun x : ByteArray => x.data.toList) := fun a b e => ba_ext e
 exact (List.map_inj_right (fun _ _ e => hinj e)).1 h2
theorem star_pieces : piecesB 44 star = [star] := (pieces_isB (ps := [star]) rfl).symm
theorem star_item (first last : Int) (h : first ≤ last) : itemN first last star = spreadN first last first last 1 := by
 have e : cutX 47 star = star := rfl
 have e2 : cutZ 47 star = false := rfl
 exact itemN_else (by unfold itBad; rw [e]; simp) (if_pos e) (if_pos e) (if_neg (by rw [e2]; simp))
def lim : Nat → Nat × Nat
 | 0 => (0, 59)
 | 1 => (0, 23)
 | 2 => (1, 31)
 | 3 => (1, 12)
 | _ => (0, 6)
theorem lim_le (k : Nat) : (lim k).1 ≤ (lim k).2 ∧ (lim k).2 ≤ 60 := by
 unfold lim; split <;> exact ⟨by decide, by decide⟩
theorem lim_all (k : Nat) : maskN (ticksF 100 ((lim k).1 : Int) ((lim k).2 : Int) 1) = allN (lim k).1 (lim k).2 := by
 unfold lim; split <;> decide +kernel
theorem star_field (k : Nat) : fieldOk (lim k).1 (lim k).2 star = true ∧ fieldN (lim k).1 (lim k).2 star = allN (lim k).1 (lim k).2 := by
 have hl := (lim_le k).1
 have h : itemN (lim k).1 (lim k).2 star = ticksF 100 ((lim k).1 : Int) ((lim k).2 : Int) 1 := by
  rw [star_item _ _ (by omega), spread_some (by omega) (by omega) (by omega)]
 refine ⟨?_, ?_⟩
 ·unfold fieldOk
  rw [star_pieces, List.all_cons, h]
  obtain ⟨g, _, e⟩ := ticksF_more (f := 100) (n := ((lim k).1 : Int)) (hi := ((lim k).2 : Int)) (e := 1) (by have := (lim_le k).2; omega) (by omega)
  rw [e]; rfl
 unfold fieldN itemsN
 rw [star_pieces]
 show maskN (itemN (lim k).1 (lim k).2 star ++ []) = _
 rw [List.append_nil, h, lim_all]
def pieceAt (ps : List ByteArray) (k : Nat) : ByteArray := ps.getD k ⟨#[]⟩
theorem pieceAt_get {ps : List ByteArray} {k : Nat} {p : ByteArray} (h : ps[k]? = some p) : pieceAt ps k = p := by unfold pieceAt; rw [List.getD_eq_getElem?_getD, h]; rfl
def fOk (ps : List ByteArray) (k : Nat) : Bool := fieldOk (lim k).1 (lim k).2 (pieceAt ps k)
def fM (ps : List ByteArray) (k : Nat) : Nat := fieldN (lim k).1 (lim k).2 (pieceAt ps k)
def isAny (ps : List ByteArray) (k : Nat) : Bool := (pieceAt ps k).toList == [42]
theorem fM_lt (ps : List ByteArray) (k : Nat) : fM ps k < 18446744073709551616 := mask_items_lt (lim_le k).2 _
def cronOk (s : ByteArray) : Bool := decide (s.size ≤ 300) && decide ((piecesB 32 s).length = 5) && (List.range 5).all (fOk (piecesB 32 s))
def cronCode (s : ByteArray) : Int := if 300 < s.size then 2 else if cronOk s = true then 0 else 3
theorem cronOk_bad {s : ByteArray} {k : Nat} (hk : k < 5) (h : fOk (piecesB 32 s) k = false) : cronOk s = false := by
 unfold cronOk
 have : (List.range 5).all (fOk (piecesB 32 s)) = false := by
  rw [List.all_eq_false]; exact ⟨k, List.mem_range.2 hk, by rw [h]; simp⟩
 rw [this]; simp
theorem cronOk_few {s : ByteArray} (h : (piecesB 32 s).length ≠ 5) : cronOk s = false := by unfold cronOk; simp [h]
theorem cronOk_good {s : ByteArray} (h0 : s.size ≤ 300) (h : (piecesB 32 s).length = 5) (hk : ∀ k < 5, fOk (piecesB 32 s) k = true) : cronOk s = true := by
 unfold cronOk
 rw [decide_eq_true h0, decide_eq_true h, show (List.range 5).all (fOk (piecesB 32 s)) = true from by rw [List.all_eq_true]; exact fun k hk2 => hk k (List.mem_range.1 hk2)]
 rfl
end G
namespace G
open Go
def decB (n : Nat) : ByteArray := ⟨(Lib.decDigits n).toArray⟩
theorem decB_size {n : Nat} (h : n < 100) : (decB n).size ≤ 2 := by
 rw [ba_size]
 show (Lib.decDigits n).length ≤ 2
 by_cases h1 : n < 10
 ·rw [Lib.decDigits_one h1]; simp
 rw [Lib.decDigits_two h1 h]; simp
def runTxt (a b : Nat) : ByteArray := if b = a then decB a else decB a ++ ⟨#[45]⟩ ++ decB b
theorem runTxt_one (a : Nat) : runTxt a a = decB a := if_pos rfl
theorem runTxt_two {a b : Nat} (h : b ≠ a) : runTxt a b = decB a ++ ⟨#[45]⟩ ++ decB b := if_neg h
theorem runTxt_size {a b : Nat} (ha : a < 100) (hb : b < 100) : (runTxt a b).size ≤ 5 := by
 have h1 := decB_size ha; have h2 := decB_size hb
 unfold runTxt
 split
 ·omega
 rw [ByteArray.size_append, ByteArray.size_append]
 show _ + 1 + _ ≤ 5
 omega
def runEnd (s hi : Nat) : Nat → Nat → Nat
 | 0, v => v
 | f + 1, v => if v < hi ∧ s.testBit (v + 1) = true then runEnd s hi f (v + 1) else v
theorem runEnd_go {s hi v f : Nat} (hf : hi - v ≤ f) (h1 : v < hi) (h2 : s.testBit (v + 1) = true) : ∃ g, f = g + 1 ∧ runEnd s hi f v = runEnd s hi g (v + 1) := by
 cases f with
 | zero => omega
 | succ g => exact ⟨g, rfl, if_pos ⟨h1, h2⟩⟩
theorem runEnd_stop {s hi v f : Nat} (h : ¬ (v < hi ∧ s.testBit (v + 1) = true)) : runEnd s hi f v = v := by
 cases f with
 | zero => rfl
 | succ g => exact if_neg h
theorem runEnd_le : ∀ (s hi f v : Nat), v ≤ hi → v ≤ runEnd s hi f v ∧ runEnd s hi f v ≤ hi ∧ ∀ u, v < u → u ≤ runEnd s hi f v → s.testBit u = true
 | s, hi, 0, v, h => ⟨Nat.le_refl _, h, fun u h1 h2 => absurd (show u ≤ v from h2) (by omega)⟩
 | s, hi, f + 1, v, h => by
  by_cases hc : v < hi ∧ s.testBit (v + 1) = true
  ·have e : runEnd s hi (f + 1) v = runEnd s hi f (v + 1) := if_pos hc
   obtain ⟨h1, h2, h3⟩ := runEnd_le s hi f (v + 1) (by omega)
   rw [e]
   refine ⟨by omega, h2, fun u hu1 hu2 => ?_⟩
   by_cases hu : u = v + 1
   ·subst hu; exact hc.2
   exact h3 u (by omega) hu2
  have e : runEnd s hi (f + 1) v = v := if_neg hc
  rw [e]
  exact ⟨Nat.le_refl _, h, fun u h1 h2 => absurd h2 (by omega)⟩
def begins (s lo v : Nat) : Bool := s.testBit v && (decide (v = lo) || !s.testBit (v - 1))
def txtsUp (s lo hi v : Nat) : List ByteArray := ((List.range v).filter (fun u => decide (lo ≤ u) && begins s lo u)).map (fun u => runTxt u (runEnd s hi 64 u))
theorem txtsUp_no {s lo hi v : Nat} (h : (decide (lo ≤ v) && begins s lo v) = false) : txtsUp s lo hi (v + 1) = txtsUp s lo hi v := by
 unfold txtsUp
 rw [List.range_succ, List.filter_append, List.filter_cons_of_neg (by rw [h]; simp), List.filter_nil, List.append_nil]
theorem txtsUp_yes {s lo hi v : Nat} (h1 : lo ≤ v) (h : begins s lo v = true) : txtsUp s lo hi (v + 1) = txtsUp s lo hi v ++ [runTxt v (runEnd s hi 64 v)] := by
 unfold txtsUp
 rw [List.range_succ, List.filter_append, List.filter_cons_of_pos (by rw [h, decide_eq_true h1]; rfl), List.filter_nil, List.map_append]; rfl
theorem txtsUp_lo (s lo hi : Nat) : txtsUp s lo hi lo = [] := by
 unfold txtsUp
 have : (List.range lo).filter (fun u => decide (lo ≤ u) && begins s lo u) = [] := by
  rw [List.filter_eq_nil_iff]
  intro u hu
  have := List.mem_range.1 hu
  rw [decide_eq_false (show ¬ lo ≤ u by omega)]; simp
 rw [this]; rfl
theorem txtsUp_skip {s lo hi v : Nat} : ∀ (d : Nat), lo ≤ v → (∀ u, v < u → u ≤ v + d → s.testBit u = false ∨ s.testBit (u - 1) = true) → txtsUp s lo hi (v + 1 + d) = txtsUp s lo hi (v + 1)
 | 0, _, _ => rfl
 | d + 1, h1, h => by
  have e : v + 1 + (d + 1) = (v + 1 + d) + 1 := by omega
  rw [e, txtsUp_no, txtsUp_skip d h1 (fun u a b => h u a (by omega))]
  unfold begins
  rcases h (v + 1 + d) (by omega) (by omega) with c | c
  ·rw [c]; simp
  rw [show v + 1 + d - 1 = v + d by omega] at c
  rw [show v + 1 + d - 1 = v + d by omega, c, decide_eq_false (show ¬ v + 1 + d = lo by omega)]; simp
theorem txtsUp_len (s lo hi v : Nat) : (txtsUp s lo hi v).length ≤ v := by
 unfold txtsUp
 rw [List.length_map]
 have := List.length_filter_le (fun u => decide (lo ≤ u) && begins s lo u) (List.range v)
 rwa [List.length_range] at this
theorem txtsUp_size {s lo hi v : Nat} (hv : v ≤ hi + 1) (hh : hi < 99) : ∀ x ∈ txtsUp s lo hi v, x.size ≤ 5 := by
 intro x hx
 unfold txtsUp at hx
 obtain ⟨u, hu, rfl⟩ := List.mem_map.1 hx
 have h1 := List.mem_range.1 (List.mem_filter.1 hu).1
 have := (runEnd_le s hi 64 u (by omega)).2.1
 exact runTxt_size (by omega) (by omega)
def joinB (c : UInt8) (l : List ByteArray) : ByteArray := ⟨(Lib.join (l.map (·.data.toList)) [c]).toArray⟩
theorem lens_le {k : Nat} : ∀ {l : List (List UInt8)}, (∀ x ∈ l, x.length ≤ k) → Lib.lens l ≤ k * l.length
 | [], _ => by simp [Lib.lens]
 | y :: l, h => by
  have ih := lens_le (l := l) (fun x hx => h x (List.mem_cons_of_mem _ hx))
  have h1 := h y (by simp)
  simp only [Lib.lens, List.map_cons, List.sum_cons, List.length_cons] at ih ⊢
  rw [Nat.mul_succ]; omega
theorem joinB_size (c : UInt8) {l : List ByteArray} {k : Nat} (h : ∀ x ∈ l, x.size ≤ k) : (joinB c l).size ≤ (k + 1) * l.length := by
 rw [ba_size]
 cases l with
 | nil => exact Nat.le_refl _
 | cons y l =>
  show (Lib.join (y.data.toList :: l.map (·.data.toList)) [c]).length ≤ _
  rw [Lib.join_length]
  have := lens_le (k := k) (l := y.data.toList :: l.map (·.data.toList)) (fun x hx => by
   rcases List.mem_cons.1 hx with rfl | hx
   ·rw [← ba_size]; exact h y (by simp)
   obtain ⟨z, hz, rfl⟩ := List.mem_map.1 hx
   rw [← ba_size]; exact h z (List.mem_cons_of_mem _ hz))
  simp only [List.length_cons, List.length_map, List.length_nil] at this ⊢
  have e := Nat.add_mul k 1 (l.length + 1)
  omega
def fieldTxt (s lo hi : Nat) (any : Bool) : ByteArray := if s = allN lo hi ∧ any = true then star else joinB 44 (txtsUp s lo hi (hi + 1))
theorem fieldTxt_size (s lo hi : Nat) (any : Bool) (hh : hi ≤ 60) : (fieldTxt s lo hi any).size ≤ 400 := by
 unfold fieldTxt
 split
 ·decide
 have h1 := joinB_size 44 (k := 5) (txtsUp_size (s := s) (lo := lo) (v := hi + 1) (Nat.le_refl _) (show hi < 99 by omega))
 have h2 := txtsUp_len s lo hi (hi + 1)
 omega
end G
namespace G
open Go
theorem cutB_less {c : UInt8} : ∀ {l : List UInt8}, (cutB c l).2.2 = true → (cutB c l).2.1.length < l.length
 | [], h => by cases h
 | b :: l, h => by
  by_cases e : b = c
  ·subst e; rw [cutB_eq]; show l.length < (b :: l).length; simp
  rw [cutB_ne e] at h ⊢
  have ih := cutB_less (l := l) h
  show (cutB c l).2.1.length < (b :: l).length
  simp only [List.length_cons]; omega
theorem cutY_less {c : UInt8} {s : ByteArray} (h : cutZ c s = true) : (cutY c s).size < s.size := by
 rw [ba_size, ba_size]; exact cutB_less h
theorem piecesB_pos (c : UInt8) (s : ByteArray) : 0 < (piecesB c s).length := by rw [piecesB_many]; exact pieces_pos c _
end G
namespace Go.Proofs.YtoidcbpcnikejaaGreatDoor
open Go.RowKit
def wOk (x : ByteArray) : Bool := G.wholeOk 7 x.data.toList
def wV (x : ByteArray) : Int := G.wholeV 7 x.data.toList
def wordsOk (ws : List ByteArray) (n : Nat) : Bool := decide (ws.length = n) && ws.all wOk
def wdPlan : ByteArray := ⟨#[112, 108, 97, 110]⟩
def wdRest : ByteArray := ⟨#[114, 101, 115, 116]⟩
def wdUp : ByteArray := ⟨#[117, 112]⟩
def wdDown : ByteArray := ⟨#[100, 111, 119, 110]⟩
def wdLag : ByteArray := ⟨#[108, 97, 103]⟩
def wdDepth : ByteArray := ⟨#[100, 101, 112, 116, 104]⟩
def wdSpan : ByteArray := ⟨#[115, 112, 97, 110]⟩
def wdSlash : ByteArray := ⟨#[47]⟩
def rowOk (word : ByteArray) (ws : List ByteArray) : Bool := decide (G.pieceAt ws 0 = word) && wordsOk (ws.drop 1) 4
def headOk (ws : List ByteArray) : Bool := decide (G.pieceAt ws 0 = wdPlan) && (decide (ws.length = 6) && (nameOk (G.pieceAt ws 1) && wordsOk (ws.drop 2) 4))
def crP (ps : List ByteArray) : Cr := ⟨G.fM ps 0, G.fM ps 1, G.fM ps 2, G.fM ps 3, G.fM ps 4, G.isAny ps 2, G.isAny ps 4⟩
def crZ : Cr := ⟨0, 0, 0, 0, 0, false, false⟩
def crOf (s : ByteArray) : Cr := crP (G.piecesB 32 s)
def slashAt (ws : List ByteArray) : Int := Lib.idxOfS ws wdSlash
def spanA (ws : List ByteArray) : ByteArray := G.joinB 32 ((ws.take (slashAt ws).toNat).drop 2)
def spanB (ws : List ByteArray) : ByteArray := G.joinB 32 (ws.drop ((slashAt ws).toNat + 1))
def timedOk (ws : List ByteArray) : Bool := decide (2 ≤ slashAt ws) && (wOk (G.pieceAt ws 1) && (G.cronOk (spanA ws) && G.cronOk (spanB ws)))
def timedN (ws : List ByteArray) : Option Trg := if timedOk ws = true then some ⟨3, wV (G.pieceAt ws 1), 0, crOf (spanA ws), crOf (spanB ws)⟩ else none
def twoN (kind : Int) (ws : List ByteArray) : Option Trg := if wordsOk (ws.drop 1) 2 = true then some ⟨kind, wV (G.pieceAt ws 1), wV (G.pieceAt ws 2), crZ, crZ⟩ else none
def trigN (ws : List ByteArray) : Option Trg :=
 if G.pieceAt ws 0 = wdLag then twoN 1 ws else if G.pieceAt ws 0 = wdDepth then twoN 2 ws else if G.pieceAt ws 0 = wdSpan then timedN ws else none
def lineN (i : Nat) (p : Pln) (ws : List ByteArray) : Option Pln :=
 match i with
 | 0 => if headOk ws = true then some { p with name := G.pieceAt ws 1, mn := wV (G.pieceAt ws 2), mx := wV (G.pieceAt ws 3), poll := wV (G.pieceAt ws 4), cool := wV (G.pieceAt ws 5) } else none
 | 1 => if rowOk wdRest ws = true then some { p with tol := wV (G.pieceAt ws 1), back := wV (G.pieceAt ws 2), after := wV (G.pieceAt ws 3), shift := wV (G.pieceAt ws 4) } else none
 | 2 => if rowOk wdUp ws = true then some { p with up := ⟨wV (G.pieceAt ws 1), wV (G.pieceAt ws 2), wV (G.pieceAt ws 3), wV (G.pieceAt ws 4)⟩ } else none
 | 3 => if rowOk wdDown ws = true then some { p with down := ⟨wV (G.pieceAt ws 1), wV (G.pieceAt ws 2), wV (G.pieceAt ws 3), wV (G.pieceAt ws 4)⟩ } else none
 | _ => (trigN ws).map fun t => { p with trigs := p.trigs ++ [t] }
def zeroP : Pln := ⟨⟨#[]⟩, 0, 0, 0, 0, 0, 0, 0, 0, ⟨0, 0, 0, 0⟩, ⟨0, 0, 0, 0⟩, []⟩
def wordsOf (rest : ByteArray) : List ByteArray := G.piecesB 32 (G.cutX 10 rest)
def readGo : Nat → Nat → Pln → ByteArray → Option Pln × Nat
 | 0, i, _, _ => (none, i)
 | f + 1, i, p, rest =>
  if 4 ≤ i ∧ rest.size = 0 then (some p, 0)
  else if G.cutZ 10 rest = false then (none, i + 1)
  else match lineN i p (wordsOf rest) with
   | none => (none, i + 1)
   | some p' => readGo f (i + 1) p' (G.cutY 10 rest)
def Reads (i : Nat) (p : Pln) (rest : ByteArray) (R : Option Pln × Nat) : Prop := ∃ f, rest.size < f ∧ readGo f i p rest = R
theorem Reads.whole {i : Nat} {p : Pln} {rest : ByteArray} {R : Option Pln × Nat} (h : Reads i p rest R) (h1 : 4 ≤ i) (h2 : rest.size = 0) : R = (some p, 0) := by
 obtain ⟨f, hf, rfl⟩ := h
 obtain ⟨g, rfl⟩ : ∃ g, f = g + 1 := ⟨f - 1, by omega⟩
 unfold readGo; rw [if_pos ⟨h1, h2⟩]
theorem Reads.cut {i : Nat} {p : Pln} {rest : ByteArray} {R : Option Pln × Nat} (h : Reads i p rest R) (h1 : i < 4 ∨ 0 < rest.size) (h2 : G.cutZ 10 rest = false) : R = (none, i + 1) := by
 obtain ⟨f, hf, rfl⟩ := h
 obtain ⟨g, rfl⟩ : ∃ g, f = g + 1 := ⟨f - 1, by omega⟩
 unfold readGo; rw [if_neg (by omega), if_pos h2]
theorem Reads.bad {i : Nat} {p : Pln} {rest : ByteArray} {R : Option Pln × Nat} (h : Reads i p rest R) (h1 : i < 4 ∨ 0 < rest.size) (h2 : G.cutZ 10 rest = true) (h3 : lineN i p (wordsOf rest) = none) : R = (none, i + 1) := by
 obtain ⟨f, hf, rfl⟩ := h
 obtain ⟨g, rfl⟩ : ∃ g, f = g + 1 := ⟨f - 1, by omega⟩
 unfold readGo; rw [if_neg (by omega), if_neg (by rw [h2]; simp), h3]
theorem Reads.next {i : Nat} {p p' : Pln} {rest : ByteArray} {R : Option Pln × Nat} (h : Reads i p rest R) (h1 : i < 4 ∨ 0 < rest.size) (h2 : G.cutZ 10 rest = true) (h3 : lineN i p (wordsOf rest) = some p') : Reads (i + 1) p' (G.cutY 10 rest) R := by
 obtain ⟨f, hf, rfl⟩ := h
 obtain ⟨g, rfl⟩ : ∃ g, f = g + 1 := ⟨f - 1, by omega⟩
 refine ⟨g, by have := G.cutY_less h2; omega, ?_⟩
 conv => rhs; unfold readGo
 rw [if_neg (by omega), if_neg (by rw [h2]; simp), h3]
def readR (s : ByteArray) : Pln × Nat × Int :=
 if 2048 < s.size then (zeroP, 0, 2)
 else match readGo (s.size + 1) 0 zeroP s with
  | (none, k) => (zeroP, k, 3)
  | (some p, _) => if planE p = 0 then (p, 0, 0) else (zeroP, 0, planE p)
theorem crP_fits (ps : List ByteArray) : (crP ps).fits := ⟨G.fM_lt _ _, G.fM_lt _ _, G.fM_lt _ _, G.fM_lt _ _, G.fM_lt _ _⟩
theorem crZ_fits : crZ.fits := by unfold Cr.fits crZ; decide
theorem trigN_fits {ws : List ByteArray} {t : Trg} (h : trigN ws = some t) : t.fits := by
 unfold trigN at h
 have two : ∀ {kind : Int}, twoN kind ws = some t → t.fits := fun h => by
  unfold twoN at h
  split at h
  ·cases h; exact ⟨crZ_fits, crZ_fits⟩
  cases h
 split at h
 ·exact two h
 split at h
 ·exact two h
 split at h
 ·unfold timedN at h
  split at h
  ·cases h; exact ⟨crP_fits _, crP_fits _⟩
  cases h
 cases h
theorem ite_some {c : Prop} [Decidable c] {a b : Pln} (h : (if c then some a else none) = some b) : a = b := by
 split at h
 ·cases h; rfl
 cases h
theorem lineN_fits {i : Nat} {p q : Pln} {ws : List ByteArray} (hp : ∀ t ∈ p.trigs, t.fits) (h : lineN i p ws = some q) : ∀ t ∈ q.trigs, t.fits := by
 rcases i with _ | _ | _ | _ | i
 ·have e := ite_some (c := headOk ws = true) h
  rw [← e]; exact hp
 ·have e := ite_some (c := rowOk wdRest ws = true) h
  rw [← e]; exact hp
 ·have e := ite_some (c := rowOk wdUp ws = true) h
  rw [← e]; exact hp
 ·have e := ite_some (c := rowOk wdDown ws = true) h
  rw [← e]; exact hp
 have h' : (trigN ws).map (fun t => { p with trigs := p.trigs ++ [t] }) = some q := h
 obtain ⟨t, ht, rfl⟩ := Option.map_eq_some_iff.1 h'
 intro u hu
 rcases List.mem_append.1 hu with hu | hu
 ·exact hp u hu
 rw [List.mem_singleton.1 hu]; exact trigN_fits ht
end Go.Proofs.YtoidcbpcnikejaaGreatDoor
namespace G
open Go
def itoB (n : Int) : ByteArray := ⟨(Lib.itoa n).toArray⟩
def rowB (w : ByteArray) (l : List Int) : ByteArray := l.foldl (fun a n => a ++ (⟨#[32]⟩ ++ itoB n)) w
def lineB (w : ByteArray) (l : List Int) : ByteArray := rowB w l ++ ⟨#[10]⟩
theorem rowB_next {w : ByteArray} {l : List Int} {k : Nat} {n : Int} (h : l[k]? = some n) : rowB w (l.take (k + 1)) = rowB w (l.take k) ++ (⟨#[32]⟩ ++ itoB n) := by
 unfold rowB
 rw [List.take_add_one, h, List.foldl_append]; rfl
theorem itoB_size {n : Int} (h : -9223372036854775808 ≤ n ∧ n ≤ 9223372036854775807) : (itoB n).size ≤ 21 := by
 rw [ba_size]
 show (Lib.itoa n).length ≤ 21
 exact Lib.itoa_length_le n h.1 h.2
theorem rowB_size {w : ByteArray} : ∀ {l : List Int}, (∀ x ∈ l, -9223372036854775808 ≤ x ∧ x ≤ 9223372036854775807) → (rowB w l).size ≤ w.size + 22 * l.length := by
 intro l
 induction l generalizing w with
 | nil => intro _; exact Nat.le_refl _
 | cons n l ih =>
  intro h
  have h1 := ih (w := w ++ (⟨#[32]⟩ ++ itoB n)) (fun x hx => h x (List.mem_cons_of_mem _ hx))
  have h2 := itoB_size (h n (by simp))
  show (rowB (w ++ (⟨#[32]⟩ ++ itoB n)) l).size ≤ _
  rw [ByteArray.size_append, ByteArray.size_append] at h1
  have h3 : (⟨#[32]⟩ : ByteArray).size = 1 := rfl
  rw [List.length_cons]
  omega
theorem lineB_size {w : ByteArray} {l : List Int} (h : ∀ x ∈ l, -9223372036854775808 ≤ x ∧ x ≤ 9223372036854775807) : (lineB w l).size ≤ w.size + 22 * l.length + 1 := by
 unfold lineB
 rw [ByteArray.size_append]
 have h3 : (⟨#[10]⟩ : ByteArray).size = 1 := rfl
 have := rowB_size (w := w) h
 omega
end G
namespace Go.Proofs.YtoidcbpcnikejaaGreatDoor
open Go.RowKit
abbrev PowTab (w : World) : Prop := Lib.TabIs Tryz.prog w "internal/strconv.uint64pow10" .u64 Lib.pow10Tab
theorem PowTab.below {w w' : World} (h : PowTab w) (hb : Below w.heap.size w w') : PowTab w' := by
 have hgn : Tryz.prog.globalNamed "internal/strconv.uint64pow10" = some 4 := by kernel_rfl
 unfold PowTab Lib.TabIs World.var? at h ⊢
 rw [hgn] at h ⊢
 simp only [Option.bind_some] at h ⊢
 have hlt : 4 < w.heap.size := by
  rcases Nat.lt_or_ge 4 w.heap.size with h' | h'
  ·exact h'
  rw [Array.getElem?_eq_none h'] at h; cases h
 rw [hb.block _ hlt]
 exact h
theorem below_grow (w : World) (k : Nat) (os : Array Obj) : Below w.heap.size w (Go.Sort.grow (w.drewN k) os) :=
 ⟨rfl, rfl, rfl, by show _ ≤ (w.heap ++ os).size; rw [Array.size_append]; exact Nat.le_add_right _ _, fun g hg => by show (w.heap ++ os)[g]? = w.heap[g]?; rw [Array.getElem?_append_left hg]⟩
def IntW (n : Int) : Prop := -9223372036854775808 ≤ n ∧ n ≤ 9223372036854775807
def LinPost (t : ByteArray) (w : World) (e : Ending) (w' : World) : Prop := e = .returned (.string t) ∧ Below w.heap.size w w'
theorem itoaAny (n : Int) (hn : IntW n) (w : World) (ht : PowTab w) : Calls Tryz.prog 26 #[.int .i64 n] w (LinPost (G.itoB n) w) :=
 (Tryz.strconv_Itoa n hn.1 hn.2 w ht).mono fun e w' ⟨he, k, os, hw⟩ => ⟨he, hw ▸ below_grow w k os⟩
structure LinS (w W : World) (b : Nat) (l : List Int) : Prop where
 tab : PowTab W
 row : G.At W b 3 (l.map (Value.int .i64)).toArray
 below : Below w.heap.size w W
theorem LinS.next {w W W' : World} {b : Nat} {l : List Int} (h : LinS w W b l) (hb : Below W.heap.size W W') : LinS w W' b l :=
 ⟨h.tab.below hb, h.row.below hb h.row.inside, h.below.trans (hb.mono h.below.size)⟩
theorem planLine (word : ByteArray) (l : List Int) (n : Nat) (hn : l.length = n) (hl : n ≤ 4) (hr : ∀ x ∈ l, IntW x) (hw : word.size ≤ 1000) (b cap : Nat) (w : World) (hb : G.At w b 3 (l.map (Value.int .i64)).toArray) (ht : PowTab w) :
  Calls Tryz.prog 83 #[.string word, .slice (some ⟨b, 0, none⟩) n cap] w (LinPost (G.lineB word l) w) := by
 have HS := J (show LinS w w b l from ⟨ht, hb, Below.refl _ _⟩)
 have HR := J hr
 have HN := J hn
 have HW := J (show word = G.rowB word (l.take 0) from rfl)
 have HZ := J (fun k (hk : k ≤ 4) => (show (G.rowB word (l.take k)).size ≤ 1088 from Nat.le_trans (G.rowB_size (fun x hx => hr x (List.mem_of_mem_take hx))) (by rw [List.length_take]; omega)))
 have hl' : (n : Int) ≤ 4 := by omega
 clear hr hb ht hn hw
 go_enter Tryz.func83, Tryz.ntmps83
 go_wp2_with fail
 go_loopw [9, 0] (fun x y wr => ∃ k : Nat, k ≤ n ∧ x = .int .i64 k ∧ y = .string (G.rowB word (l.take k)) ∧ Hid (LinS w wr b l)) (fun x _ _ => n - (intOf x).toNat)
 case atStart => exact ⟨0, by omega, rfl, by rw [← HW.u], HS⟩
 clear HS
 obtain ⟨k, hk, rfl, rfl, HS⟩ := hrel
 have i0 : (0 : Int) ≤ (k : Int) := by omega
 by_cases hlt : k < n
 ·have i1 : (k : Int) < (n : Int) := by omega
  obtain ⟨x, hx⟩ : ∃ x, l[k]? = some x := ⟨l[k]'(by rw [HN.u]; exact hlt), List.getElem?_eq_getElem _⟩
  have HX := J hx
  have HNx := J (G.rowB_next (w := word) hx)
  have x0 : wr.cell? ⟨b, k, none⟩ = some (.int .i64 x) := HS.u.row.here (by simp [hx])
  have HI := J (itoaAny x (HR.u x (List.mem_of_getElem? hx)) wr HS.u.tab)
  have HK := J hlt
  have hy := HZ.u k (by omega)
  have hone : (⟨#[32]⟩ : ByteArray).size = 1 := rfl
  have hit := G.itoB_size (HR.u x (List.mem_of_getElem? hx))
  have hz1 : (⟨#[32]⟩ : ByteArray).size + (G.itoB x).size ≤ 9223372036854775807 := by omega
  clear hk hx
  generalize G.rowB word (l.take k) = Y at HNx hy ⊢
  have hz2 : Y.size + (⟨#[32]⟩ ++ G.itoB x).size ≤ 9223372036854775807 := by rw [ByteArray.size_append]; omega
  clear hy hone hit
  go_wp2_with fail
  refine HI.u.mono ?_
  rintro e w1 ⟨rfl, hb1⟩
  have HS1 := J (HS.u.next hb1)
  clear hb1 HS x0
  go_wp2_with fail
  go_round
  case rel => exact ⟨k + 1, by have := HK.u; omega, by go_num, by rw [HNx.u], HS1⟩
  case measure => have := HK.u; simp [intOf]; omega
 obtain rfl : k = n := by omega
 have HF := J (show G.lineB word l = G.rowB word (l.take k) ++ ⟨#[10]⟩ by rw [List.take_of_length_le (by rw [HN.u]; exact Nat.le_refl _)]; rfl)
 have hone : (⟨#[10]⟩ : ByteArray).size = 1 := rfl
 have hy := HZ.u k (by omega)
 have hz : (G.rowB word (l.take k)).size + (⟨#[10]⟩ : ByteArray).size ≤ 9223372036854775807 := by omega
 clear hone hy
 go_wp2_with fail
 go_ret
 exact ⟨by rw [HF.u] <;> rfl, HS.u.below⟩
open Go.RowKit
theorem digB_yes {b : UInt8} {x : Nat} (e : x = b.toNat) (h1 : 48 ≤ x) (h2 : x ≤ 57) : G.digB b = true := by subst e; unfold G.digB; rw [decide_eq_true h1, decide_eq_true h2]; rfl
theorem digB_low {b : UInt8} {x : Nat} (e : x = b.toNat) (h : x < 48) : G.digB b = false := by subst e; unfold G.digB; rw [decide_eq_false (by omega)]; rfl
theorem digB_high {b : UInt8} {x : Nat} (e : x = b.toNat) (h : 57 < x) : G.digB b = false := by subst e; unfold G.digB; rw [decide_eq_false (show ¬ b.toNat ≤ 57 by omega), Bool.and_false]
theorem dig_snoc {l : List UInt8} {k : Nat} {b : UInt8} {x : Nat} (hb : l[k]? = some b) (e : x = b.toNat) (h1 : 48 ≤ x) (h2 : x ≤ 57) (ha : (l.take k).all G.digB = true) : (l.take (k + 1)).all G.digB = true ∧ G.valL (l.take (k + 1)) = 10 * G.valL (l.take k) + ((x : Int) - 48) := by
 rw [G.take_of_get hb, List.all_append, ha, G.valL_snoc, e]
 refine ⟨?_, rfl⟩
 simp [digB_yes e h1 h2]
theorem u8_in (x : Int) (h0 : 0 ≤ x) (h1 : x ≤ 255) : IntKind.u8.wrap x = x := by rw [IntKind.wrap_u8]; omega
theorem cronNumber (s : ByteArray) (hs : s.size ≤ 1000000) (w : World) : Calls Tryz.prog 151 #[.string s] w fun e w' => e = .returned (.int .i64 (G.numL 2 s.data.toList)) ∧ w = w' := by
 have hz := G.ba_size s
 by_cases hl : s.size < 1
 ·have HF := J (G.numL_size (most := 2) (l := s.data.toList) (by omega))
  have hl2 : (s.size : Int) < 1 := by omega
  clear hl hz
  go_enter Tryz.func151, Tryz.ntmps151
  go_wp2_with fail
  go_ret
  exact ⟨by rw [HF.u] <;> rfl, rfl⟩
 by_cases hl3 : 2 < s.size
 ·have HF := J (G.numL_size (most := 2) (l := s.data.toList) (by omega))
  have hl2 : (2 : Int) < (s.size : Int) := by omega
  have hl4 : (1 : Int) ≤ (s.size : Int) := by omega
  clear hl hz hl3
  go_enter Tryz.func151, Tryz.ntmps151
  go_wp2_with fail
  go_ret
  exact ⟨by rw [HF.u] <;> rfl, rfl⟩
 have h1 : (1 : Int) ≤ (s.size : Int) := by omega
 have h2 : (s.size : Int) ≤ 2 := by omega
 have HZ := J hz
 have HS1 := J (show 1 ≤ s.size by omega); have HS2 := J (show s.size ≤ 2 by omega)
 clear hz hl hl3 hs
 go_enter Tryz.func151, Tryz.ntmps151
 go_wp2_with fail
 go_loop [3, 15] (fun n i => ∃ k : Nat, k ≤ s.size ∧ i = .int .i64 k ∧ n = .int .i64 (G.valL (s.data.toList.take k)) ∧ Hid ((s.data.toList.take k).all G.digB = true)) (fun _ i => s.size - (intOf i).toNat)
 case atStart => exact ⟨0, by omega, rfl, rfl, J rfl⟩
 obtain ⟨k, hk, rfl, rfl, HA⟩ := hrel
 by_cases hlt : k < s.size
 ·have i0 : (0 : Int) ≤ (k : Int) := by omega
  have i1 : (k : Int) < (s.size : Int) := by omega
  obtain ⟨b, hb, hx⟩ := byte_get hlt
  have hv := G.valL_bd k (s.data.toList.take k) (by rw [List.length_take]; have := HZ.u; omega) HA.u
  have hv2 : G.valL (s.data.toList.take k) < 100 := by
   have e : (10 : Int) ^ k ≤ 10 ^ 2 := by exact_mod_cast Nat.pow_le_pow_right (show 0 < 10 by decide) (show k ≤ 2 by omega)
   have : (10 : Int) ^ 2 = 100 := by decide
   omega
  have hv0 := hv.1
  have HNx := J (fun h1 h2 => dig_snoc hb hx h1 h2 HA.u)
  have HB1 := J (fun h => G.numL_bad (most := 2) hb (digB_low hx h))
  have HB2 := J (fun h => G.numL_bad (most := 2) hb (digB_high hx h))
  have HLt := J hlt
  clear hv hb hx HA
  have e7 := byte_at hlt
  have hxb := byteAt_bd s k
  generalize G.valL (s.data.toList.take k) = n at HNx hv0 hv2 ⊢
  generalize byteAt s k = x at HNx HB1 HB2 hxb e7 ⊢
  have x0 : (0 : Int) ≤ (x : Int) := by omega
  by_cases a1 : x < 48
  ·have HF := J (HB1.u a1)
   have a2 : (x : Int) < 48 := by omega
   clear a1 HNx HB1 HB2
   go_wp2_with fail
   go_ret
   exact ⟨by rw [HF.u] <;> rfl, rfl⟩
  by_cases a2 : 57 < x
  ·have HF := J (HB2.u a2)
   have a3 : (57 : Int) < (x : Int) := by omega
   have a4 : (48 : Int) ≤ (x : Int) := by omega
   clear a1 a2 HNx HB1 HB2
   go_wp2_with fail
   go_ret
   exact ⟨by rw [HF.u] <;> rfl, rfl⟩
  have HN := J (HNx.u (by omega) (by omega))
  have a3 : (x : Int) ≤ 57 := by omega
  have a4 : (48 : Int) ≤ (x : Int) := by omega
  have q1 : IntKind.u8.wrap ((x : Int) - 48) = (x : Int) - 48 := u8_in _ (by omega) (by omega)
  have q2 : IntKind.i64.wrap ((x : Int) - 48) = (x : Int) - 48 := IntWalk.i64_in _ (by omega)
  have q3 : IntKind.i64.wrap (10 * n) = 10 * n := IntWalk.i64_in _ (by omega)
  have q4 : IntKind.i64.wrap (10 * n + ((x : Int) - 48)) = 10 * n + ((x : Int) - 48) := IntWalk.i64_in _ (by omega)
  clear a1 a2 HNx HB1 HB2
  go_wp2_with fail
  go_round
  case rel => exact ⟨k + 1, by have := HLt.u; omega, by go_num, by rw [HN.u.2], J HN.u.1⟩
  case measure => have := HLt.u; simp [intOf]; omega
 have hke : k = s.size := by omega
 subst hke
 have HF := J (show G.numL 2 s.data.toList = G.valL (s.data.toList.take s.size) by
  have h3 := HA.u
  have e : s.data.toList.take s.size = s.data.toList := by rw [HZ.u, List.take_length]
  rw [e] at h3 ⊢
  exact G.numL_yes (by have := HZ.u; have := HS1.u; omega) (by have := HZ.u; have := HS2.u; omega) h3)
 clear hk hlt HA
 go_wp2_with fail
 go_ret
 exact ⟨by rw [HF.u] <;> rfl, rfl⟩
open Go.RowKit
structure Ends (first last : Int) (s : ByteArray) (lo hi : Int) : Prop where
 low : G.itLo first s = lo
 high : G.itHi last s = hi
 bad : G.itBad s = false
 b1 : -1 ≤ lo
 b2 : lo ≤ 100
 b3 : -1 ≤ hi
 b4 : hi ≤ 100
def ItemRun (f : Nat) (L : List Nat) (hi ev : Int) (n : Int) (D : List Nat) : Prop := D ++ G.ticksF f n hi ev = L ∧ hi - n < f
theorem ItemRun.more {f : Nat} {L D : List Nat} {n hi ev : Int} (h : ItemRun f L hi ev n D) (hl : n ≤ hi) (he : 1 ≤ ev) : ∃ g, f = g + 1 ∧ ItemRun g L hi ev (n + ev) (D ++ [n.toNat]) := by
 obtain ⟨g, rfl, e⟩ := G.ticksF_more h.2 hl
 refine ⟨g, rfl, ?_, by have := h.2; omega⟩
 rw [List.append_assoc, List.singleton_append, ← e]; exact h.1
theorem ItemRun.done {f : Nat} {L D : List Nat} {n hi ev : Int} (h : ItemRun f L hi ev n D) (hl : hi < n) : D = L := by
 have := h.1
 rwa [G.ticksF_none hl, List.append_nil] at this
theorem ItemRun.mem {f : Nat} {L D : List Nat} {n hi ev : Int} (h : ItemRun f L hi ev n D) {x : Nat} (hx : x ∈ D) : x ∈ L := by rw [← h.1]; exact List.mem_append_left _ hx
theorem numL2 (l : List UInt8) : -1 ≤ G.numL 2 l ∧ G.numL 2 l ≤ 100 := by
 have := G.numL_bd 2 l
 have e : (10 : Int) ^ 2 = 100 := by decide
 omega
theorem ne_star {x : ByteArray} (h : x ≠ G.star) : (x.toList == [42]) = false := by
 rw [beq_eq_false_iff_ne]
 intro e
 apply h
 apply G.ba_ext
 rw [← ByteArray.toList_eq x, e]; rfl
theorem eq_star {x : ByteArray} (h : x = G.star) : (x.toList == [42]) = true := by
 subst h; rw [ByteArray.toList_eq]; rfl
theorem cronItem (first last : Nat) (a b : Value) (s : ByteArray) (m : Int) (w : World) (hs : s.size ≤ 1000000) (hl1 : first ≤ 60) (hl : last ≤ 60) (hm : w.cell? ⟨0, 0, none⟩ = some (.int .i64 m)) :
  Calls Tryz.prog 110 #[.agg #[a, .int .i64 first, .int .i64 last, b], .string s] w fun e w' => e = .returned (.int .u64 (G.maskN (G.itemN first last s) : Nat)) ∧ Below w.heap.size w w' := by
 have hx := G.cutX_size 47 s
 have hmax := World.block_lt_of_cell? _ _ hm
 have HM := J hm
 have HX := J (show (G.cutX 47 s).size ≤ 1000000 by omega)
 have HS := J hs
 have f3 : (first : Int) ≤ 60 := by omega
 have f0 : (0 : Int) ≤ (first : Int) := by omega
 have f1 : (0 : Int) ≤ (last : Int) := by omega
 have f2 : (last : Int) ≤ 60 := by omega
 clear hx hs hm
 go_enter Tryz.func110, Tryz.ntmps110
 go_wp2_with fail
 have hb0 := (Below.refl w.heap.size w).alloc (Nat.le_refl _) (.cells #[a, .int .i64 (first : Int), .int .i64 (last : Int), b] 142)
 refine (shlCut 47 s m _ HS.u ((hb0.cell (p := ⟨0, 0, none⟩) hmax).trans HM.u)).mono ?_
 rintro e w1 ⟨rfl, hb1⟩
 have HB := J (hb0.trans (hb1.mono (by simp)))
 have hc1 := (hb1.cell (p := ⟨w.heap.size, 1, none⟩) (by simp)).trans (show (w.alloc (.cells #[a, .int .i64 (first : Int), .int .i64 (last : Int), b] 142)).cell? ⟨w.heap.size, 1, none⟩ = some (.int .i64 (first : Int)) by simp)
 have hc2 := (hb1.cell (p := ⟨w.heap.size, 2, none⟩) (by simp)).trans (show (w.alloc (.cells #[a, .int .i64 (first : Int), .int .i64 (last : Int), b] 142)).cell? ⟨w.heap.size, 2, none⟩ = some (.int .i64 (last : Int)) by simp)
 have hlt := hb1.size
 clear hb0 hb1
 have hX : ⟨(G.cutB 47 s.data.toList).1.toArray⟩ = G.cutX 47 s := rfl
 have hY : ⟨(G.cutB 47 s.data.toList).2.1.toArray⟩ = G.cutY 47 s := rfl
 have hZ : (G.cutB 47 s.data.toList).2.2 = G.cutZ 47 s := rfl
 rw [hX, hY, hZ]
 clear hX hY hZ
 obtain ⟨t, HT⟩ : ∃ t, Hid (G.cutZ 47 s = t) := ⟨_, J rfl⟩
 rw [HT.u]
 go_wp2_with fail
 go_quiet (fail)
 have hc3 : (w1.drewN nq).cell? ⟨w.heap.size, 1, none⟩ = some (.int .i64 (first : Int)) := hc1
 have hc4 : (w1.drewN nq).cell? ⟨w.heap.size, 2, none⟩ = some (.int .i64 (last : Int)) := hc2
 have HB2 := J (below_drewN HB.u nq)
 have hlt2 : w.heap.size + 1 ≤ (w1.drewN nq).heap.size := by simpa using hlt
 clear hc1 hc2 HB hlt
 generalize w1.drewN nq = w2 at hc3 hc4 HB2 hlt2 ⊢
 go_upto_if 27 with (fail)
 go_cut [8, 9] (fun x y wx => ∃ lo hi : Int, x = .int .i64 lo ∧ y = .int .i64 hi ∧ Hid (Ends first last s lo hi) ∧ Hid (Below w2.heap.size w2 wx))
 case first =>
  by_cases hst : G.cutX 47 s = G.star
  ·have HF := J (show Ends first last s first last from ⟨if_pos hst, if_pos hst, by unfold G.itBad; rw [hst]; rfl, by omega, by omega, by omega, by omega⟩)
   rw [eq_star hst, Bool.not_true]
   clear hst
   go_wp2_with fail
   go_meet
   exact ⟨_, _, rfl, rfl, HF, J (Below.refl _ _)⟩
  rw [ne_star hst, Bool.not_false]
  have hx1 := G.cutX_size 45 (G.cutX 47 s); have hx2 := G.cutY_size 45 (G.cutX 47 s)
  have HX1 := J (show (G.cutX 45 (G.cutX 47 s)).size ≤ 1000000 by have := HX.u; omega)
  have HX2 := J (show (G.cutY 45 (G.cutX 47 s)).size ≤ 1000000 by have := HX.u; omega)
  have HST := J hst
  clear hst hx1 hx2
  go_wp2_with fail
  refine (shlCut 45 (G.cutX 47 s) m _ HX.u ((HB2.u.cell (p := ⟨0, 0, none⟩) hmax).trans HM.u)).mono ?_
  rintro e w3 ⟨rfl, hb3⟩
  have HB3 := J hb3
  clear hb3
  have hX : ⟨(G.cutB 45 (G.cutX 47 s).data.toList).1.toArray⟩ = G.cutX 45 (G.cutX 47 s) := rfl
  have hY : ⟨(G.cutB 45 (G.cutX 47 s).data.toList).2.1.toArray⟩ = G.cutY 45 (G.cutX 47 s) := rfl
  have hZ : (G.cutB 45 (G.cutX 47 s).data.toList).2.2 = G.cutZ 45 (G.cutX 47 s) := rfl
  rw [hX, hY, hZ]
  clear hX hY hZ
  go_wp2_with fail
  refine (cronNumber _ HX1.u _).mono ?_
  rintro e w4 ⟨rfl, rfl⟩
  cases hr : G.cutZ 45 (G.cutX 47 s) with
  | true =>
   go_wp2_with fail
   refine (cronNumber _ HX2.u _).mono ?_
   rintro e w4 ⟨rfl, rfl⟩
   have h1 := numL2 (G.cutX 45 (G.cutX 47 s)).data.toList; have h2 := numL2 (G.cutY 45 (G.cutX 47 s)).data.toList
   have HF := J (show Ends first last s (G.numL 2 (G.cutX 45 (G.cutX 47 s)).data.toList) (G.numL 2 (G.cutY 45 (G.cutX 47 s)).data.toList) from ⟨if_neg HST.u, by unfold G.itHi; rw [if_neg HST.u, if_pos hr], by unfold G.itBad; rw [hr]; simp, h1.1, h1.2, h2.1, h2.2⟩)
   generalize G.numL 2 (G.cutX 45 (G.cutX 47 s)).data.toList = lo at HF h1 ⊢
   generalize G.numL 2 (G.cutY 45 (G.cutX 47 s)).data.toList = hi at HF h2 ⊢
   cases t with
   | true =>
    go_wp2_with fail
    go_meet
    exact ⟨_, _, rfl, rfl, HF, HB3⟩
   | false =>
    go_wp2_with fail
    go_meet
    exact ⟨_, _, rfl, rfl, HF, HB3⟩
  | false =>
   cases t with
   | true =>
    have HF := J (show G.itemN (first : Int) (last : Int) s = [] from G.itemN_bad (by unfold G.itBad; rw [hr, HT.u]; simp [HST.u]))
    have HG := J (HB2.u.trans (HB3.u.mono (by omega)))
    go_wp2_with fail
    go_ret
    exact ⟨by rw [HF.u]; rfl, HG.u⟩
   | false =>
    have h1 := numL2 (G.cutX 45 (G.cutX 47 s)).data.toList
    have HF := J (show Ends first last s (G.numL 2 (G.cutX 45 (G.cutX 47 s)).data.toList) (G.numL 2 (G.cutX 45 (G.cutX 47 s)).data.toList) from ⟨if_neg HST.u, by unfold G.itHi; rw [if_neg HST.u, if_neg (by rw [hr]; simp)], by unfold G.itBad; rw [HT.u]; simp, h1.1, h1.2, h1.1, h1.2⟩)
    generalize G.numL 2 (G.cutX 45 (G.cutX 47 s)).data.toList = lo at HF h1 ⊢
    go_wp2_with fail
    go_meet
    exact ⟨_, _, rfl, rfl, HF, HB3⟩
 obtain ⟨lo, hi, rfl, rfl, HE, HB3⟩ := hcut
 have HY := J (show (G.cutY 47 s).size ≤ 1000000 by have := G.cutY_size 47 s; have := HS.u; omega)
 have hc1 := (HB3.u.cell (p := ⟨w.heap.size, 1, none⟩) (by show w.heap.size < _; omega)).trans hc3
 have hc2 := (HB3.u.cell (p := ⟨w.heap.size, 2, none⟩) (by show w.heap.size < _; omega)).trans hc4
 have HB := J (HB2.u.trans (HB3.u.mono (by omega)))
 have b1 := HE.u.b1; have b2 := HE.u.b2; have b3 := HE.u.b3; have b4 := HE.u.b4
 clear hc3 hc4 HB2 HB3 hlt2
 go_upto_if 45 with (fail)
 go_cut [10] (fun x wy => ∃ ev : Int, x = .int .i64 ev ∧ Hid (G.itEv s = ev) ∧ -1 ≤ ev ∧ ev ≤ 100 ∧ wc = wy)
 case first =>
  cases t with
  | true =>
   have h1 := numL2 (G.cutY 47 s).data.toList
   have HF := J (show G.itEv s = G.numL 2 (G.cutY 47 s).data.toList from if_pos HT.u)
   go_wp2_with fail
   refine (cronNumber _ HY.u _).mono ?_
   rintro e w4 ⟨rfl, rfl⟩
   generalize G.numL 2 (G.cutY 47 s).data.toList = ev at HF h1 ⊢
   go_wp2_with fail
   go_meet
   exact ⟨ev, rfl, HF, h1.1, h1.2, rfl⟩
  | false =>
   have HF := J (show G.itEv s = 1 from if_neg (by rw [HT.u]; simp))
   go_wp2_with fail
   go_meet
   exact ⟨1, rfl, HF, by omega, by omega, rfl⟩
 obtain ⟨ev, rfl, HV, e1, e2, rfl⟩ := hcut
 have HI := J (G.itemN_else HE.u.bad HE.u.low HE.u.high HV.u)
 have HZ := J (fun h => (HI.u.trans (G.spread_none h) : G.itemN (first : Int) (last : Int) s = []))
 by_cases a1 : lo < first
 ·have HF := J (HZ.u (.inl a1))
  go_wp2_with fail
  go_ret
  exact ⟨by rw [HF.u]; rfl, HB.u⟩
 by_cases a2 : (last : Int) < hi
 ·have HF := J (HZ.u (.inr (.inl a2)))
  have a3 : (first : Int) ≤ lo := by omega
  go_wp2_with fail
  go_ret
  exact ⟨by rw [HF.u]; rfl, HB.u⟩
 by_cases a3 : ev < 1
 ·have HF := J (HZ.u (.inr (.inr a3)))
  have a4 : (first : Int) ≤ lo := by omega
  have a5 : hi ≤ (last : Int) := by omega
  go_wp2_with fail
  go_ret
  exact ⟨by rw [HF.u]; rfl, HB.u⟩
 have a4 : (first : Int) ≤ lo := by omega
 have a5 : hi ≤ (last : Int) := by omega
 have a6 : 1 ≤ ev := by omega
 have HL := J (HI.u.trans (G.spread_some a4 a5 a6))
 have HIn := J (fun (n : Nat) (hn : n ∈ G.ticksF 100 lo hi ev) => (show n ≤ 60 by have := G.itemN_in (first := (first : Int)) (last := (last : Int)) (s := s) f0 n (by rw [HL.u]; exact hn); omega))
 have HR := J (show ItemRun 100 (G.ticksF 100 lo hi ev) hi ev lo [] from ⟨rfl, by omega⟩)
 clear a1 a2 a3 HI HZ
 generalize G.ticksF 100 lo hi ev = L at HL HIn HR
 go_wp2_with fail
 go_loop [14, 15] (fun x y => ∃ (f : Nat) (n : Int) (D : List Nat), y = .int .i64 n ∧ x = .int .u64 (G.maskN D : Nat) ∧ 0 ≤ n ∧ f ≤ 100 ∧ Hid (ItemRun f L hi ev n D)) (fun x y => (61 - intOf y).toNat)
 case atStart => exact ⟨100, lo, [], rfl, rfl, by omega, by omega, HR⟩
 obtain ⟨f, n, D, rfl, rfl, n0, nf, HR1⟩ := hrel
 by_cases hlt : n ≤ hi
 ·obtain ⟨k, rfl⟩ := Int.eq_ofNat_of_zero_le n0
  have hk : k ≤ 60 := by omega
  obtain ⟨g, hg, hn⟩ := HR1.u.more hlt a6
  have HN := J hn
  have hD : ∀ x ∈ D, x ≤ 60 := fun x hx => HIn.u x (HR1.u.mem hx)
  have HO := J (G.or_u64 _ _ (G.maskN_lt hD) (show 2 ^ k < 18446744073709551616 from Nat.lt_of_le_of_lt (Nat.pow_le_pow_right (by omega) hk) (by decide)))
  have HP := J (pow_u64 (show k ≤ 62 by omega))
  clear hn hD HR1
  go_wp2_with fail
  go_round
  case rel =>
   refine ⟨g, (k : Int) + ev, D ++ [(k : Int).toNat], by go_num, ?_, by omega, by omega, HN⟩
   rw [HP.u, HO.u, G.maskN_snoc]; rfl
  case measure => simp [intOf]; omega
 have HF := J (show D = G.itemN (first : Int) (last : Int) s from by rw [HL.u]; exact HR1.u.done (by omega))
 go_wp2_with fail
 go_ret
 exact ⟨by rw [HF.u] <;> rfl, HB.u⟩
end Go.Proofs.YtoidcbpcnikejaaGreatDoor
