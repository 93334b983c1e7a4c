/- What an item of a cron's field tells: plain. What a field of a cron tells: plain. The text of a field of a cron: runs of numbers, joined: plain. -/
import Derived.Test.YthelnkoohbnjpaaDoorTxtN
import Derived.Test.YthelnkoohbnjpaaDoorZCron
import Derived.Lib.Join
import Derived.Lib.ItoaNum

set_option linter.unusedVariables false
set_option linter.unusedSimpArgs false
namespace Tide
open Go
def cutX (c : UInt8) (s : ByteArray) : ByteArray := ⟨(cutB c s.data.toList).1.toArray⟩
def cutY (c : UInt8) (s : ByteArray) : ByteArray := ⟨(cutB c s.data.toList).2.1.toArray⟩
def cutZ (c : UInt8) (s : ByteArray) : Bool := (cutB c s.data.toList).2.2
theorem ba_ext {a b : ByteArray} (h : a.data.toList = b.data.toList) : a = b := by
  cases a with | mk x => cases b with | mk y =>
    congr 1
    exact Array.ext' h
theorem pieces_cut (c : UInt8) : ∀ l : List UInt8, pieces c l = if (cutB c l).2.2 then (cutB c l).1 :: pieces c (cutB c l).2.1 else [(cutB c l).1]
  | [] => rfl
  | b :: l => by
    have ih := pieces_cut c l
    by_cases h : b = c
    · subst h; rw [pieces_eq, cutB_eq]; rfl
    · rw [cutB_ne h]
      cases hz : (cutB c l).2.2 with
      | false => rw [hz] at ih; rw [pieces_ne h (show pieces c l = _ :: [] from ih)]; rfl
      | true => rw [hz] at ih; rw [pieces_ne h (show pieces c l = _ :: _ from ih)]; rfl
theorem cutB_size (c : UInt8) : ∀ l : List UInt8, (cutB c l).1.length ≤ l.length ∧ (cutB c l).2.1.length ≤ l.length
  | [] => ⟨Nat.le_refl _, Nat.le_refl _⟩
  | b :: l => by
    have ih := cutB_size c l
    by_cases h : b = c
    · subst h; rw [cutB_eq]; exact ⟨Nat.zero_le _, Nat.le_succ _⟩
    · rw [cutB_ne h]
      exact ⟨by show (b :: (cutB c l).1).length ≤ (b :: l).length; simp only [List.length_cons]; omega, by show (cutB c l).2.1.length ≤ (b :: l).length; simp only [List.length_cons]; omega⟩
theorem cutX_size (c : UInt8) (s : ByteArray) : (cutX c s).size ≤ s.size := by
  rw [ba_size, ba_size]; exact (cutB_size c _).1
theorem cutY_size (c : UInt8) (s : ByteArray) : (cutY c s).size ≤ s.size := by
  rw [ba_size, ba_size]; exact (cutB_size c _).2
theorem pieces_one {c : UInt8} {l : List UInt8} (h : c ∉ l) : pieces c l = [l] := by
  induction l with
  | nil => rfl
  | cons b l ih =>
    rw [List.mem_cons, not_or] at h
    rw [pieces_ne (fun e => h.1 e.symm) (ih h.2)]
theorem numL_has {most : Nat} {c : UInt8} {l : List UInt8} (h : c ∈ l) (hc : digB c = false) : numL most l = -1 := by
  obtain ⟨k, hk⟩ := List.mem_iff_getElem?.1 h
  exact numL_bad hk hc
/-- the pieces are one, two or more -/
theorem pieces_ways (c : UInt8) (s : ByteArray) (ps : List ByteArray) (h : ps.map (fun x : ByteArray => x.data.toList) = pieces c s.data.toList) :
    (cutZ c s = false ∧ ps = [cutX c s]) ∨ (cutZ c s = true ∧ ps = [cutX c s, cutY c s]) ∨ (cutZ c s = true ∧ 2 < ps.length ∧ c ∈ (cutY c s).data.toList ∧ ps[0]? = some (cutX c s)) := by
  rw [pieces_cut] at h
  cases hz : cutZ c s with
  | false =>
    have hz' : (cutB c s.data.toList).2.2 = false := hz
    rw [hz', if_neg (by simp)] at h
    obtain ⟨x, rfl, h1⟩ := List.map_eq_singleton_iff.1 h
    exact .inl ⟨rfl, by rw [ba_ext (a := x) (b := cutX c s) h1]⟩
  | true =>
    have hz' : (cutB c s.data.toList).2.2 = true := hz
    rw [hz', if_pos rfl] at h
    obtain ⟨x, qs, rfl, h1, h2⟩ := List.map_eq_cons_iff.1 h
    have hx := ba_ext (a := x) (b := cutX c s) h1
    subst hx
    by_cases hc : c ∈ (cutY c s).data.toList
    · refine .inr (.inr ⟨rfl, ?_, hc, rfl⟩)
      have h3 := congrArg List.length h2
      rw [List.length_map, pieces_many] at h3
      have := List.count_pos_iff.2 (show c ∈ (cutB c s.data.toList).2.1 from hc)
      simp only [List.length_cons]; omega
    · refine .inr (.inl ⟨rfl, ?_⟩)
      rw [pieces_one (show c ∉ (cutB c s.data.toList).2.1 from hc)] at h2
      obtain ⟨y, rfl, h3⟩ := List.map_eq_singleton_iff.1 h2
      rw [ba_ext (a := y) (b := cutY c s) h3]
/-- from n on, each `every`-th, till hi -/
def ticksF : Nat → Int → Int → Int → List Nat
  | 0, _, _, _ => []
  | f + 1, n, hi, e => if n ≤ hi then n.toNat :: ticksF f (n + e) hi e else []
theorem ticksF_more {f : Nat} {n hi e : Int} (hf : hi - n < f) (h : n ≤ hi) : ∃ g, f = g + 1 ∧ ticksF f n hi e = n.toNat :: ticksF g (n + e) hi e := by
  cases f with
  | zero => omega
  | succ g => exact ⟨g, rfl, if_pos h⟩
theorem ticksF_none {f : Nat} {n hi e : Int} (h : hi < n) : ticksF f n hi e = [] := by
  cases f with
  | zero => rfl
  | succ g => exact if_neg (by omega)
theorem ticksF_len : ∀ (f : Nat) (n hi e : Int), (ticksF f n hi e).length ≤ f
  | 0, _, _, _ => Nat.le_refl _
  | f + 1, n, hi, e => by
    show (if n ≤ hi then n.toNat :: ticksF f (n + e) hi e else []).length ≤ f + 1
    split
    · have := ticksF_len f (n + e) hi e; simp only [List.length_cons]; omega
    · simp
theorem ticksF_in : ∀ (f : Nat) (n hi e : Int), 0 ≤ n → 1 ≤ e → ∀ x ∈ ticksF f n hi e, n ≤ x ∧ (x : Int) ≤ hi
  | 0, _, _, _, _, _, x, hx => by simp [ticksF] at hx
  | f + 1, n, hi, e, h0, h1, x, hx => by
    replace hx : x ∈ (if n ≤ hi then n.toNat :: ticksF f (n + e) hi e else []) := hx
    split at hx
    · rcases List.mem_cons.1 hx with rfl | hx
      · omega
      · have := ticksF_in f (n + e) hi e (by omega) h1 x hx
        omega
    · cases hx
def star : ByteArray := ⟨#[42]⟩
def itLo (first : Int) (s : ByteArray) : Int := if cutX 47 s = star then first else numL 2 (cutX 45 (cutX 47 s)).data.toList
def itHi (last : Int) (s : ByteArray) : Int := if cutX 47 s = star then last else if cutZ 45 (cutX 47 s) = true then numL 2 (cutY 45 (cutX 47 s)).data.toList else numL 2 (cutX 45 (cutX 47 s)).data.toList
def itEv (s : ByteArray) : Int := if cutZ 47 s = true then numL 2 (cutY 47 s).data.toList else 1
def itBad (s : ByteArray) : Bool := decide (cutX 47 s ≠ star) && cutZ 47 s && !cutZ 45 (cutX 47 s)
/-- from lo to hi each `every`-th, if that is right -/
def spreadN (first last lo hi ev : Int) : List Nat := if lo < first ∨ last < hi ∨ ev < 1 then [] else ticksF 100 lo hi ev
def itemN (first last : Int) (s : ByteArray) : List Nat := if itBad s = true then [] else spreadN first last (itLo first s) (itHi last s) (itEv s)
theorem itemN_bad {first last : Int} {s : ByteArray} (h : itBad s = true) : itemN first last s = [] := by unfold itemN; rw [if_pos h]
theorem itemN_else {first last lo hi ev : Int} {s : ByteArray} (h : itBad s = false) (h1 : itLo first s = lo) (h2 : itHi last s = hi) (h3 : itEv s = ev) : itemN first last s = spreadN first last lo hi ev := by
  unfold itemN; rw [if_neg (by rw [h]; simp), h1, h2, h3]
theorem itemN_ev {first last : Int} {s : ByteArray} (h : itEv s < 1) : itemN first last s = [] := by
  unfold itemN
  split
  · rfl
  · unfold spreadN; rw [if_pos (.inr (.inr h))]
theorem spread_none {first last lo hi ev : Int} (h : lo < first ∨ last < hi ∨ ev < 1) : spreadN first last lo hi ev = [] := by unfold spreadN; rw [if_pos h]
theorem spread_back {first last lo hi ev : Int} (h : hi < lo) : spreadN first last lo hi ev = [] := by
  unfold spreadN
  split
  · rfl
  · exact ticksF_none h
theorem spread_some {first last lo hi ev : Int} (h1 : first ≤ lo) (h2 : hi ≤ last) (h3 : 1 ≤ ev) : spreadN first last lo hi ev = ticksF 100 lo hi ev := by unfold spreadN; rw [if_neg (by omega)]
theorem itEv_more {s : ByteArray} (h : cutZ 47 s = true) (h2 : (47 : UInt8) ∈ (cutY 47 s).data.toList) : itEv s = -1 := by
  unfold itEv
  rw [if_pos h, numL_has h2 (by decide)]
theorem itemN_more {first last : Int} {s : ByteArray} (h0 : 0 ≤ first) (hs : cutX 47 s ≠ star) (h : cutZ 45 (cutX 47 s) = true) (h2 : (45 : UInt8) ∈ (cutY 45 (cutX 47 s)).data.toList) : itemN first last s = [] := by
  have e : itHi last s = -1 := by
    unfold itHi
    rw [if_neg hs, if_pos h, numL_has h2 (by decide)]
  unfold itemN
  split
  · rfl
  · rw [e]
    by_cases h3 : itLo first s < first
    · exact spread_none (.inl h3)
    · exact spread_back (by omega)
theorem itemN_in {first last : Int} {s : ByteArray} (h0 : 0 ≤ first) : ∀ n ∈ itemN first last s, first ≤ (n : Int) ∧ (n : Int) ≤ last := by
  intro n hn
  unfold itemN at hn
  split at hn
  · cases hn
  · unfold spreadN at hn
    split at hn
    · cases hn
    · rename_i h
      have := ticksF_in 100 _ _ _ (by omega) (by omega) n hn
      omega
theorem itemN_len (first last : Int) (s : ByteArray) : (itemN first last s).length ≤ 100 := by
  unfold itemN
  split
  · simp
  · unfold spreadN
    split
    · simp
    · exact ticksF_len _ _ _ _
/-- the set of these numbers -/
def maskN (ns : List Nat) : Nat := ns.foldl (fun m n => m ||| 2 ^ n) 0
theorem maskN_snoc (ns : List Nat) (n : Nat) : maskN (ns ++ [n]) = maskN ns ||| 2 ^ n := by unfold maskN; rw [List.foldl_append]; rfl
theorem fold_or : ∀ (ns : List Nat) (m : Nat), ns.foldl (fun m n => m ||| 2 ^ n) m = m ||| maskN ns
  | [], m => by simp [maskN]
  | n :: ns, m => by
    show ns.foldl _ (m ||| 2 ^ n) = _
    rw [fold_or ns, show maskN (n :: ns) = ns.foldl (fun m n => m ||| 2 ^ n) (0 ||| 2 ^ n) from rfl, fold_or ns (0 ||| 2 ^ n), Nat.zero_or, Nat.or_assoc]
theorem maskN_append (a b : List Nat) : maskN (a ++ b) = maskN a ||| maskN b := by
  show (a ++ b).foldl _ 0 = _
  rw [List.foldl_append, fold_or]; rfl
theorem maskN_lt {ns : List Nat} (h : ∀ n ∈ ns, n ≤ 60) : maskN ns < 18446744073709551616 := by
  suffices ∀ (ns : List Nat) (m : Nat), m < 2 ^ 64 → (∀ n ∈ ns, n ≤ 60) → ns.foldl (fun m n => m ||| 2 ^ n) m < 2 ^ 64 from this ns 0 (by decide) h
  intro ns
  induction ns with
  | nil => intro m hm _; exact hm
  | cons n ns ih =>
    intro m hm h
    exact ih _ (Nat.or_lt_two_pow hm (Nat.pow_lt_pow_right (by decide) (by have := h n (by simp); omega))) (fun x hx => h x (List.mem_cons_of_mem _ hx))
theorem maskN_zero {ns : List Nat} (h : maskN ns = 0) : ns = [] := by
  cases ns with
  | nil => rfl
  | cons n ns =>
    exfalso
    rw [show maskN (n :: ns) = ns.foldl (fun m n => m ||| 2 ^ n) (0 ||| 2 ^ n) from rfl, fold_or, Nat.zero_or] at h
    have := congrArg (fun m => m.testBit n) h
    simp [Nat.testBit_two_pow_self] at this
theorem or_u64 (a b : Nat) (ha : a < 18446744073709551616) (hb : b < 18446744073709551616) : bits .or .u64 (a : Int) (b : Int) = ((a ||| b : Nat) : Int) := by
  show IntKind.u64.wrap ((BitVec.ofInt 64 (a : Int) ||| BitVec.ofInt 64 (b : Int)).toNat : Int) = _
  rw [BitVec.toNat_or, ofInt_u64 a ha, ofInt_u64 b hb]
  exact wrap_u64_nat _ (Nat.or_lt_two_pow (n := 64) ha hb)
end Tide


namespace Tide
open Go
def itemsN (first last : Int) (ps : List ByteArray) : List Nat := ps.flatMap (itemN first last)
def fieldOk (first last : Int) (s : ByteArray) : Bool := (piecesB 44 s).all (fun p => !(itemN first last p).isEmpty)
def fieldN (first last : Int) (s : ByteArray) : Nat := maskN (itemsN first last (piecesB 44 s))
theorem itemsN_snoc (first last : Int) (ps : List ByteArray) (p : ByteArray) : itemsN first last (ps ++ [p]) = itemsN first last ps ++ itemN first last p := by
  unfold itemsN; rw [List.flatMap_append]; simp
theorem itemsN_le {first last : Nat} (hl : last ≤ 60) (ps : List ByteArray) : ∀ n ∈ itemsN first last ps, n ≤ 60 := by
  intro n hn
  obtain ⟨p, _, h⟩ := List.mem_flatMap.1 hn
  have := itemN_in (first := (first : Int)) (last := (last : Int)) (s := p) (by omega) n h
  omega
theorem mask_items_lt {first last : Nat} (hl : last ≤ 60) (ps : List ByteArray) : maskN (itemsN first last ps) < 18446744073709551616 := maskN_lt (itemsN_le hl ps)
theorem fieldOk_bad {first last : Int} {s p : ByteArray} {k : Nat} (h : (piecesB 44 s)[k]? = some p) (he : itemN first last p = []) : fieldOk first last s = false := by
  unfold fieldOk
  rw [List.all_eq_false]
  exact ⟨p, List.mem_of_getElem? h, by rw [he]; simp⟩
theorem fieldOk_good {first last : Int} {s : ByteArray} (h : ∀ p ∈ piecesB 44 s, itemN first last p ≠ []) : fieldOk first last s = true := by
  unfold fieldOk
  rw [List.all_eq_true]
  intro p hp
  have := h p hp
  cases hi : itemN first last p with
  | nil => exact absurd hi this
  | cons a l => rfl
theorem pieces_isB {c : UInt8} {s : ByteArray} {ps : List ByteArray} (h : ps.map (fun x : ByteArray => x.data.toList) = pieces c s.data.toList) : ps = piecesB c s := by
  have h2 := h.trans (piecesB_data c s).symm
  have hinj : Function.Injective (fun x : ByteArray => x.data.toList) := fun a b e => ba_ext e
  exact (List.map_inj_right (fun _ _ e => hinj e)).1 h2
theorem star_pieces : piecesB 44 star = [star] := (pieces_isB (ps := [star]) rfl).symm
theorem star_item (first last : Int) (h : first ≤ last) : itemN first last star = spreadN first last first last 1 := by
  have e : cutX 47 star = star := rfl
  have e2 : cutZ 47 star = false := rfl
  exact itemN_else (by unfold itBad; rw [e]; simp) (if_pos e) (if_pos e) (if_neg (by rw [e2]; simp))
def lim : Nat → Nat × Nat
  | 0 => (0, 59)
  | 1 => (0, 23)
  | 2 => (1, 31)
  | 3 => (1, 12)
  | _ => (0, 6)
theorem lim_le (k : Nat) : (lim k).1 ≤ (lim k).2 ∧ (lim k).2 ≤ 60 := by
  unfold lim; split <;> exact ⟨by decide, by decide⟩
set_option maxRecDepth 100000 in
theorem lim_all (k : Nat) : maskN (ticksF 100 ((lim k).1 : Int) ((lim k).2 : Int) 1) = allN (lim k).1 (lim k).2 := by
  unfold lim; split <;> decide +kernel
theorem star_field (k : Nat) : fieldOk (lim k).1 (lim k).2 star = true ∧ fieldN (lim k).1 (lim k).2 star = allN (lim k).1 (lim k).2 := by
  have hl := (lim_le k).1
  have h : itemN (lim k).1 (lim k).2 star = ticksF 100 ((lim k).1 : Int) ((lim k).2 : Int) 1 := by
    rw [star_item _ _ (by omega), spread_some (by omega) (by omega) (by omega)]
  refine ⟨?_, ?_⟩
  · unfold fieldOk
    rw [star_pieces, List.all_cons, h]
    obtain ⟨g, _, e⟩ := ticksF_more (f := 100) (n := ((lim k).1 : Int)) (hi := ((lim k).2 : Int)) (e := 1) (by have := (lim_le k).2; omega) (by omega)
    rw [e]; rfl
  · unfold fieldN itemsN
    rw [star_pieces]
    show maskN (itemN (lim k).1 (lim k).2 star ++ []) = _
    rw [List.append_nil, h, lim_all]
/-- the pieces of a cron's text; one of them -/
def pieceAt (ps : List ByteArray) (k : Nat) : ByteArray := ps.getD k ⟨#[]⟩
theorem pieceAt_get {ps : List ByteArray} {k : Nat} {p : ByteArray} (h : ps[k]? = some p) : pieceAt ps k = p := by unfold pieceAt; rw [List.getD_eq_getElem?_getD, h]; rfl
def fOk (ps : List ByteArray) (k : Nat) : Bool := fieldOk (lim k).1 (lim k).2 (pieceAt ps k)
def fM (ps : List ByteArray) (k : Nat) : Nat := fieldN (lim k).1 (lim k).2 (pieceAt ps k)
def isAny (ps : List ByteArray) (k : Nat) : Bool := (pieceAt ps k).toList == [42]
theorem fM_lt (ps : List ByteArray) (k : Nat) : fM ps k < 18446744073709551616 := mask_items_lt (lim_le k).2 _
/-- a cron's text is right -/
def cronOk (s : ByteArray) : Bool := decide (s.size ≤ 300) && decide ((piecesB 32 s).length = 5) && (List.range 5).all (fOk (piecesB 32 s))
def cronCode (s : ByteArray) : Int := if 300 < s.size then 2 else if cronOk s = true then 0 else 3
theorem cronOk_bad {s : ByteArray} {k : Nat} (hk : k < 5) (h : fOk (piecesB 32 s) k = false) : cronOk s = false := by
  unfold cronOk
  have : (List.range 5).all (fOk (piecesB 32 s)) = false := by
    rw [List.all_eq_false]; exact ⟨k, List.mem_range.2 hk, by rw [h]; simp⟩
  rw [this]; simp
theorem cronOk_few {s : ByteArray} (h : (piecesB 32 s).length ≠ 5) : cronOk s = false := by unfold cronOk; simp [h]
theorem cronOk_good {s : ByteArray} (h0 : s.size ≤ 300) (h : (piecesB 32 s).length = 5) (hk : ∀ k < 5, fOk (piecesB 32 s) k = true) : cronOk s = true := by
  unfold cronOk
  rw [decide_eq_true h0, decide_eq_true h, show (List.range 5).all (fOk (piecesB 32 s)) = true from by rw [List.all_eq_true]; exact fun k hk2 => hk k (List.mem_range.1 hk2)]
  rfl
end Tide


namespace Tide
open Go
/-- a number as text -/
def decB (n : Nat) : ByteArray := ⟨(Lib.decDigits n).toArray⟩
theorem decB_size {n : Nat} (h : n < 100) : (decB n).size ≤ 2 := by
  rw [ba_size]
  show (Lib.decDigits n).length ≤ 2
  by_cases h1 : n < 10
  · rw [Lib.decDigits_one h1]; simp
  · rw [Lib.decDigits_two h1 h]; simp
/-- a run from a to b as text -/
def runTxt (a b : Nat) : ByteArray := if b = a then decB a else decB a ++ ⟨#[45]⟩ ++ decB b
theorem runTxt_one (a : Nat) : runTxt a a = decB a := if_pos rfl
theorem runTxt_two {a b : Nat} (h : b ≠ a) : runTxt a b = decB a ++ ⟨#[45]⟩ ++ decB b := if_neg h
theorem runTxt_size {a b : Nat} (ha : a < 100) (hb : b < 100) : (runTxt a b).size ≤ 5 := by
  have h1 := decB_size ha; have h2 := decB_size hb
  unfold runTxt
  split
  · omega
  · rw [ByteArray.size_append, ByteArray.size_append]
    show _ + 1 + _ ≤ 5
    omega
/-- where a run ends that has come to v -/
def runEnd (s hi : Nat) : Nat → Nat → Nat
  | 0, v => v
  | f + 1, v => if v < hi ∧ s.testBit (v + 1) = true then runEnd s hi f (v + 1) else v
theorem runEnd_go {s hi v f : Nat} (hf : hi - v ≤ f) (h1 : v < hi) (h2 : s.testBit (v + 1) = true) : ∃ g, f = g + 1 ∧ runEnd s hi f v = runEnd s hi g (v + 1) := by
  cases f with
  | zero => omega
  | succ g => exact ⟨g, rfl, if_pos ⟨h1, h2⟩⟩
theorem runEnd_stop {s hi v f : Nat} (h : ¬ (v < hi ∧ s.testBit (v + 1) = true)) : runEnd s hi f v = v := by
  cases f with
  | zero => rfl
  | succ g => exact if_neg h
theorem runEnd_le : ∀ (s hi f v : Nat), v ≤ hi → v ≤ runEnd s hi f v ∧ runEnd s hi f v ≤ hi ∧ ∀ u, v < u → u ≤ runEnd s hi f v → s.testBit u = true
  | s, hi, 0, v, h => ⟨Nat.le_refl _, h, fun u h1 h2 => absurd (show u ≤ v from h2) (by omega)⟩
  | s, hi, f + 1, v, h => by
    by_cases hc : v < hi ∧ s.testBit (v + 1) = true
    · have e : runEnd s hi (f + 1) v = runEnd s hi f (v + 1) := if_pos hc
      obtain ⟨h1, h2, h3⟩ := runEnd_le s hi f (v + 1) (by omega)
      rw [e]
      refine ⟨by omega, h2, fun u hu1 hu2 => ?_⟩
      by_cases hu : u = v + 1
      · subst hu; exact hc.2
      · exact h3 u (by omega) hu2
    · have e : runEnd s hi (f + 1) v = v := if_neg hc
      rw [e]
      exact ⟨Nat.le_refl _, h, fun u h1 h2 => absurd h2 (by omega)⟩
theorem runEnd_max : ∀ (s hi f v : Nat), v ≤ hi → hi - v ≤ f → runEnd s hi f v < hi → s.testBit (runEnd s hi f v + 1) = false
  | s, hi, 0, v, h, hf, hl => absurd (show v < hi from hl) (by omega)
  | s, hi, f + 1, v, h, hf, hl => by
    by_cases hc : v < hi ∧ s.testBit (v + 1) = true
    · have e : runEnd s hi (f + 1) v = runEnd s hi f (v + 1) := if_pos hc
      rw [e] at hl ⊢
      exact runEnd_max s hi f (v + 1) (by omega) (by omega) hl
    · have e : runEnd s hi (f + 1) v = v := if_neg hc
      rw [e] at hl ⊢
      cases hb : s.testBit (v + 1) with
      | false => rfl
      | true => exact absurd ⟨hl, hb⟩ hc
/-- does a run begin here? -/
def begins (s lo v : Nat) : Bool := s.testBit v && (decide (v = lo) || !s.testBit (v - 1))
/-- the texts of the runs that begin ahead of v -/
def txtsUp (s lo hi v : Nat) : List ByteArray := ((List.range v).filter (fun u => decide (lo ≤ u) && begins s lo u)).map (fun u => runTxt u (runEnd s hi 64 u))
theorem txtsUp_no {s lo hi v : Nat} (h : (decide (lo ≤ v) && begins s lo v) = false) : txtsUp s lo hi (v + 1) = txtsUp s lo hi v := by
  unfold txtsUp
  rw [List.range_succ, List.filter_append, List.filter_cons_of_neg (by rw [h]; simp), List.filter_nil, List.append_nil]
theorem txtsUp_yes {s lo hi v : Nat} (h1 : lo ≤ v) (h : begins s lo v = true) : txtsUp s lo hi (v + 1) = txtsUp s lo hi v ++ [runTxt v (runEnd s hi 64 v)] := by
  unfold txtsUp
  rw [List.range_succ, List.filter_append, List.filter_cons_of_pos (by rw [h, decide_eq_true h1]; rfl), List.filter_nil, List.map_append]; rfl
theorem txtsUp_lo (s lo hi : Nat) : txtsUp s lo hi lo = [] := by
  unfold txtsUp
  have : (List.range lo).filter (fun u => decide (lo ≤ u) && begins s lo u) = [] := by
    rw [List.filter_eq_nil_iff]
    intro u hu
    have := List.mem_range.1 hu
    rw [decide_eq_false (show ¬ lo ≤ u by omega)]; simp
  rw [this]; rfl
theorem txtsUp_skip {s lo hi v : Nat} : ∀ (d : Nat), lo ≤ v → (∀ u, v < u → u ≤ v + d → s.testBit u = false ∨ s.testBit (u - 1) = true) → txtsUp s lo hi (v + 1 + d) = txtsUp s lo hi (v + 1)
  | 0, _, _ => rfl
  | d + 1, h1, h => by
    have e : v + 1 + (d + 1) = (v + 1 + d) + 1 := by omega
    rw [e, txtsUp_no, txtsUp_skip d h1 (fun u a b => h u a (by omega))]
    unfold begins
    rcases h (v + 1 + d) (by omega) (by omega) with c | c
    · rw [c]; simp
    · rw [show v + 1 + d - 1 = v + d by omega] at c
      rw [show v + 1 + d - 1 = v + d by omega, c, decide_eq_false (show ¬ v + 1 + d = lo by omega)]; simp
theorem txtsUp_len (s lo hi v : Nat) : (txtsUp s lo hi v).length ≤ v := by
  unfold txtsUp
  rw [List.length_map]
  have := List.length_filter_le (fun u => decide (lo ≤ u) && begins s lo u) (List.range v)
  rwa [List.length_range] at this
theorem txtsUp_size {s lo hi v : Nat} (hv : v ≤ hi + 1) (hh : hi < 99) : ∀ x ∈ txtsUp s lo hi v, x.size ≤ 5 := by
  intro x hx
  unfold txtsUp at hx
  obtain ⟨u, hu, rfl⟩ := List.mem_map.1 hx
  have h1 := List.mem_range.1 (List.mem_filter.1 hu).1
  have := (runEnd_le s hi 64 u (by omega)).2.1
  exact runTxt_size (by omega) (by omega)
/-- the text of a field -/
def joinB (c : UInt8) (l : List ByteArray) : ByteArray := ⟨(Lib.join (l.map (·.data.toList)) [c]).toArray⟩
theorem joinB_nil (c : UInt8) : joinB c [] = ⟨#[]⟩ := rfl
theorem joinB_one (c : UInt8) (x : ByteArray) : joinB c [x] = x := by
  apply ba_ext
  show Lib.join [x.data.toList] [c] = _
  rw [Lib.join_one]
theorem joinB_snoc (c : UInt8) {l : List ByteArray} (h : l ≠ []) (x : ByteArray) : joinB c (l ++ [x]) = joinB c l ++ ⟨#[c]⟩ ++ x := by
  apply ba_ext
  cases l with
  | nil => exact absurd rfl h
  | cons y l =>
    rw [ByteArray.data_append, ByteArray.data_append, Array.toList_append, Array.toList_append]
    show Lib.join (y.data.toList :: (l ++ [x]).map (·.data.toList)) [c] = Lib.join (y.data.toList :: l.map (·.data.toList)) [c] ++ [c] ++ x.data.toList
    rw [Lib.join_cons, Lib.join_cons, List.map_append]
    unfold Lib.joinTail
    rw [List.map_append, List.flatten_append]
    simp
theorem lens_le {k : Nat} : ∀ {l : List (List UInt8)}, (∀ x ∈ l, x.length ≤ k) → Lib.lens l ≤ k * l.length
  | [], _ => by simp [Lib.lens]
  | y :: l, h => by
    have ih := lens_le (l := l) (fun x hx => h x (List.mem_cons_of_mem _ hx))
    have h1 := h y (by simp)
    simp only [Lib.lens, List.map_cons, List.sum_cons, List.length_cons] at ih ⊢
    rw [Nat.mul_succ]; omega
theorem joinB_size (c : UInt8) {l : List ByteArray} {k : Nat} (h : ∀ x ∈ l, x.size ≤ k) : (joinB c l).size ≤ (k + 1) * l.length := by
  rw [ba_size]
  cases l with
  | nil => exact Nat.le_refl _
  | cons y l =>
    show (Lib.join (y.data.toList :: l.map (·.data.toList)) [c]).length ≤ _
    rw [Lib.join_length]
    have := lens_le (k := k) (l := y.data.toList :: l.map (·.data.toList)) (fun x hx => by
      rcases List.mem_cons.1 hx with rfl | hx
      · rw [← ba_size]; exact h y (by simp)
      · obtain ⟨z, hz, rfl⟩ := List.mem_map.1 hx
        rw [← ba_size]; exact h z (List.mem_cons_of_mem _ hz))
    simp only [List.length_cons, List.length_map, List.length_nil] at this ⊢
    have e := Nat.add_mul k 1 (l.length + 1)
    omega
def fieldTxt (s lo hi : Nat) (any : Bool) : ByteArray := if s = allN lo hi ∧ any = true then star else joinB 44 (txtsUp s lo hi (hi + 1))
theorem fieldTxt_size (s lo hi : Nat) (any : Bool) (hh : hi ≤ 60) : (fieldTxt s lo hi any).size ≤ 400 := by
  unfold fieldTxt
  split
  · decide
  · have h1 := joinB_size 44 (k := 5) (txtsUp_size (s := s) (lo := lo) (v := hi + 1) (Nat.le_refl _) (show hi < 99 by omega))
    have h2 := txtsUp_len s lo hi (hi + 1)
    omega
end Tide
