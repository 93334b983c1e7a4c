/- Whole numbers as words, with a sign, without noughts ahead: plain. When a word is a whole number, as the program asks: plain. What a plan's text tells, line by line: plain. -/
import Derived.Test.YthelnkoohbnjpaaDoorTxtN
import Derived.Lib.Strings
import Derived.Test.YthelnkoohbnjpaaDoorZTxt
import Derived.Test.YthelnkoohbnjpaaDoorZPln
import Derived.Lib.SlicesS

set_option linter.unusedVariables false
set_option linter.unusedSimpArgs false
namespace Tide
open Go
set_option linter.unusedVariables false
def minusL (l : List UInt8) : Bool := l.head? == some 45
def digsL (l : List UInt8) : List UInt8 := if minusL l then l.tail else l
/-- is it a number of so many digits at the most, without noughts ahead? as the reference asks -/
def wholeOk (most : Nat) (l : List UInt8) : Bool := decide (0 ≤ numL most (digsL l)) && !(decide (1 < (digsL l).length) && (digsL l).head? == some 48) && !(minusL l && decide (numL most (digsL l) = 0))
def wholeV (most : Nat) (l : List UInt8) : Int := if minusL l then -numL most (digsL l) else numL most (digsL l)
theorem valL_fold (l : List UInt8) (n : Int) : l.foldl (fun n b => 10 * n + ((b.toNat : Int) - 48)) n = n * 10 ^ l.length + valL l := by
  induction l generalizing n with
  | nil => simp [valL]
  | cons b l ih =>
    show l.foldl _ (10 * n + ((b.toNat : Int) - 48)) = _
    have e : valL (b :: l) = ((b.toNat : Int) - 48) * 10 ^ l.length + valL l := by
      show l.foldl _ (10 * 0 + ((b.toNat : Int) - 48)) = _
      rw [ih]; simp
    rw [ih, e, List.length_cons, Int.pow_succ, Int.add_mul, Int.add_assoc]
    congr 1
    rw [Int.mul_comm 10 n, Int.mul_assoc, Int.mul_comm 10]
theorem valL_cons (b : UInt8) (l : List UInt8) : valL (b :: l) = ((b.toNat : Int) - 48) * 10 ^ l.length + valL l := by
  show l.foldl _ (10 * 0 + ((b.toNat : Int) - 48)) = _
  rw [valL_fold]; simp
/-- a number of digits is 0 only if its first one is -/
theorem valL_pos {b : UInt8} {l : List UInt8} (h : (b :: l).all digB = true) (hb : b ≠ 48) : 0 < valL (b :: l) := by
  rw [List.all_cons, Bool.and_eq_true] at h
  have h1 := h.1
  unfold digB at h1
  rw [Bool.and_eq_true, decide_eq_true_eq, decide_eq_true_eq] at h1
  have h2 := (valL_bd l.length l rfl h.2).1
  have h3 : b.toNat ≠ 48 := fun e => hb (UInt8.toNat_inj.1 (by rw [e]; rfl))
  have h4 : (0 : Int) < 10 ^ l.length := by exact_mod_cast Nat.pow_pos (n := l.length) (show 0 < 10 by decide)
  have h5 : 0 < ((b.toNat : Int) - 48) * 10 ^ l.length := Int.mul_pos (by omega) h4
  rw [valL_cons]
  omega
/-- what the program asks -/
theorem wholeOk_is (most : Nat) (l : List UInt8) : wholeOk most l = (decide (1 ≤ (digsL l).length) && decide ((digsL l).length ≤ most) && !((digsL l).head? == some 48 && (decide (1 < (digsL l).length) || minusL l)) && (digsL l).all digB) := by
  unfold wholeOk
  generalize digsL l = d
  by_cases hc : 1 ≤ d.length ∧ d.length ≤ most ∧ d.all digB = true
  · obtain ⟨h1, h2, h3⟩ := hc
    have hv := numL_yes h1 h2 h3
    have hp := (valL_bd d.length d rfl h3).1
    rw [hv, decide_eq_true hp, decide_eq_true h1, decide_eq_true h2, h3]
    match d, h1 with
    | b :: t, _ =>
      by_cases hb : b = 48
      · subst hb
        cases t with
        | nil => cases minusL l <;> rfl
        | cons c t => simp
      · have hpos := valL_pos h3 hb
        rw [decide_eq_false (show ¬ valL (b :: t) = 0 by omega)]
        have hb2 : (b == (48 : UInt8)) = false := by simpa using hb
        simp [hb2]
  · have hn : numL most d = -1 := by unfold numL; rw [if_neg hc]
    rw [hn]
    have : (decide (1 ≤ d.length) && decide (d.length ≤ most) && d.all digB) = false := by
      cases h : (decide (1 ≤ d.length) && decide (d.length ≤ most) && d.all digB) with
      | false => rfl
      | true =>
        rw [Bool.and_eq_true, Bool.and_eq_true, decide_eq_true_eq, decide_eq_true_eq] at h
        exact absurd ⟨h.1.1, h.1.2, h.2⟩ hc
    have e2 : ∀ x : Bool, (decide (1 ≤ d.length) && decide (d.length ≤ most) && x && d.all digB) = false := fun x => by
      cases x
      · simp
      · simpa using this
    rw [e2]
    rfl
end Tide


namespace Tide
open Go
theorem has_minus (l : List UInt8) : Lib.hasPrefix l [45] = minusL l := by
  cases l with
  | nil => rfl
  | cons b l =>
    show List.isPrefixOf [45] (b :: l) = (some b == some 45)
    rw [show List.isPrefixOf [45] (b :: l) = ((45 == b) && List.isPrefixOf [] l) from rfl]
    by_cases h : b = 45
    · subst h; rfl
    · have h1 : ((45 : UInt8) == b) = false := by simpa using fun e => h e.symm
      have h2 : (some b == some (45 : UInt8)) = false := by simpa using h
      rw [h1, h2]; rfl
theorem trim_minus (l : List UInt8) : Lib.trimPrefix l [45] = digsL l := by
  unfold Lib.trimPrefix digsL
  rw [has_minus]
  cases l <;> rfl
theorem whole_few {l : List UInt8} (h : (digsL l).length < 1 ∨ 7 < (digsL l).length) : wholeOk 7 l = false := by
  rw [wholeOk_is]
  rcases h with h | h
  · rw [decide_eq_false (show ¬ 1 ≤ (digsL l).length by omega)]; rfl
  · rw [decide_eq_false (show ¬ (digsL l).length ≤ 7 by omega), Bool.and_false]; rfl
theorem whole_nought {l : List UInt8} (h : (digsL l).head? = some 48) (h2 : 1 < (digsL l).length ∨ minusL l = true) : wholeOk 7 l = false := by
  rw [wholeOk_is, h]
  have e : (decide (1 < (digsL l).length) || minusL l) = true := by
    rcases h2 with h2 | h2
    · rw [decide_eq_true h2]; rfl
    · rw [h2, Bool.or_true]
  rw [e]
  simp
theorem whole_bad {l : List UInt8} {k : Nat} {b : UInt8} (h : (digsL l)[k]? = some b) (hb : digB b = false) : wholeOk 7 l = false := by
  rw [wholeOk_is]
  have e : (digsL l).all digB = false := by
    rw [List.all_eq_false]
    exact ⟨b, List.mem_of_getElem? h, by rw [hb]; simp⟩
  rw [e, Bool.and_false]
theorem whole_good {l : List UInt8} (h1 : 1 ≤ (digsL l).length) (h2 : (digsL l).length ≤ 7) (h3 : ¬ ((digsL l).head? = some 48 ∧ (1 < (digsL l).length ∨ minusL l = true))) (h4 : (digsL l).all digB = true) :
    wholeOk 7 l = true ∧ wholeV 7 l = if minusL l = true then -valL (digsL l) else valL (digsL l) := by
  refine ⟨?_, ?_⟩
  · rw [wholeOk_is, decide_eq_true h1, decide_eq_true h2, h4]
    have e : ((digsL l).head? == some 48 && (decide (1 < (digsL l).length) || minusL l)) = false := by
      cases hh : ((digsL l).head? == some 48) with
      | false => rfl
      | true =>
        rw [Bool.true_and]
        cases hx : (decide (1 < (digsL l).length) || minusL l) with
        | false => rfl
        | true =>
          rw [Bool.or_eq_true, decide_eq_true_eq] at hx
          exact absurd ⟨by simpa using hh, hx⟩ h3
    rw [e]; rfl
  · unfold wholeV
    rw [numL_yes h1 h2 h4]
end Tide


namespace Tide
open Go
theorem cutB_none {c : UInt8} : ∀ {l : List UInt8}, (cutB c l).2.2 = false → (cutB c l).1 = l ∧ (cutB c l).2.1 = []
  | [], _ => ⟨rfl, rfl⟩
  | b :: l, h => by
    by_cases e : b = c
    · subst e; rw [cutB_eq] at h; cases h
    · rw [cutB_ne e] at h ⊢
      have ih := cutB_none (l := l) h
      exact ⟨by show b :: (cutB c l).1 = b :: l; rw [ih.1], ih.2⟩
theorem cutB_less {c : UInt8} : ∀ {l : List UInt8}, (cutB c l).2.2 = true → (cutB c l).2.1.length < l.length
  | [], h => by cases h
  | b :: l, h => by
    by_cases e : b = c
    · subst e; rw [cutB_eq]; show l.length < (b :: l).length; simp
    · rw [cutB_ne e] at h ⊢
      have ih := cutB_less (l := l) h
      show (cutB c l).2.1.length < (b :: l).length
      simp only [List.length_cons]; omega
theorem cutX_none {c : UInt8} {s : ByteArray} (h : cutZ c s = false) : cutX c s = s := ba_ext (cutB_none h).1
theorem cutY_less {c : UInt8} {s : ByteArray} (h : cutZ c s = true) : (cutY c s).size < s.size := by
  rw [ba_size, ba_size]; exact cutB_less h
theorem piecesB_cut (c : UInt8) (s : ByteArray) : piecesB c s = if cutZ c s = true then cutX c s :: piecesB c (cutY c s) else [cutX c s] := by
  refine (pieces_isB (c := c) (s := s) ?_).symm
  rw [pieces_cut]
  cases hz : cutZ c s with
  | false =>
    have hz' : (cutB c s.data.toList).2.2 = false := hz
    rw [hz', if_neg (by simp), if_neg (by simp)]
    rfl
  | true =>
    have hz' : (cutB c s.data.toList).2.2 = true := hz
    rw [hz', if_pos rfl, if_pos rfl, List.map_cons, piecesB_data]
    rfl
theorem piecesB_pos (c : UInt8) (s : ByteArray) : 0 < (piecesB c s).length := by rw [piecesB_many]; exact pieces_pos c _
end Tide
namespace Go.Proofs.YthelnkoohbnjpaaDoor
open Go.RowKit
set_option linter.unusedVariables false
def wOk (x : ByteArray) : Bool := Tide.wholeOk 7 x.data.toList
def wV (x : ByteArray) : Int := Tide.wholeV 7 x.data.toList
def wordsOk (ws : List ByteArray) (n : Nat) : Bool := decide (ws.length = n) && ws.all wOk
def wdPlan : ByteArray := ⟨#[112, 108, 97, 110]⟩
def wdRest : ByteArray := ⟨#[114, 101, 115, 116]⟩
def wdUp : ByteArray := ⟨#[117, 112]⟩
def wdDown : ByteArray := ⟨#[100, 111, 119, 110]⟩
def wdLag : ByteArray := ⟨#[108, 97, 103]⟩
def wdDepth : ByteArray := ⟨#[100, 101, 112, 116, 104]⟩
def wdSpan : ByteArray := ⟨#[115, 112, 97, 110]⟩
def wdSlash : ByteArray := ⟨#[47]⟩
def rowOk (word : ByteArray) (ws : List ByteArray) : Bool := decide (Tide.pieceAt ws 0 = word) && wordsOk (ws.drop 1) 4
def headOk (ws : List ByteArray) : Bool := decide (Tide.pieceAt ws 0 = wdPlan) && (decide (ws.length = 6) && (nameOk (Tide.pieceAt ws 1) && wordsOk (ws.drop 2) 4))
def crP (ps : List ByteArray) : Cr := ⟨Tide.fM ps 0, Tide.fM ps 1, Tide.fM ps 2, Tide.fM ps 3, Tide.fM ps 4, Tide.isAny ps 2, Tide.isAny ps 4⟩
def crZ : Cr := ⟨0, 0, 0, 0, 0, false, false⟩
def crOf (s : ByteArray) : Cr := crP (Tide.piecesB 32 s)
def slashAt (ws : List ByteArray) : Int := Lib.idxOfS ws wdSlash
def spanA (ws : List ByteArray) : ByteArray := Tide.joinB 32 ((ws.take (slashAt ws).toNat).drop 2)
def spanB (ws : List ByteArray) : ByteArray := Tide.joinB 32 (ws.drop ((slashAt ws).toNat + 1))
def timedOk (ws : List ByteArray) : Bool := decide (2 ≤ slashAt ws) && (wOk (Tide.pieceAt ws 1) && (Tide.cronOk (spanA ws) && Tide.cronOk (spanB ws)))
def timedN (ws : List ByteArray) : Option Trg := if timedOk ws = true then some ⟨3, wV (Tide.pieceAt ws 1), 0, crOf (spanA ws), crOf (spanB ws)⟩ else none
def twoN (kind : Int) (ws : List ByteArray) : Option Trg := if wordsOk (ws.drop 1) 2 = true then some ⟨kind, wV (Tide.pieceAt ws 1), wV (Tide.pieceAt ws 2), crZ, crZ⟩ else none
def trigN (ws : List ByteArray) : Option Trg :=
  if Tide.pieceAt ws 0 = wdLag then twoN 1 ws else if Tide.pieceAt ws 0 = wdDepth then twoN 2 ws else if Tide.pieceAt ws 0 = wdSpan then timedN ws else none
/-- what a line adds to a plan; none: it is wrong -/
def lineN (i : Nat) (p : Pln) (ws : List ByteArray) : Option Pln :=
  match i with
  | 0 => if headOk ws = true then some { p with name := Tide.pieceAt ws 1, mn := wV (Tide.pieceAt ws 2), mx := wV (Tide.pieceAt ws 3), poll := wV (Tide.pieceAt ws 4), cool := wV (Tide.pieceAt ws 5) } else none
  | 1 => if rowOk wdRest ws = true then some { p with tol := wV (Tide.pieceAt ws 1), back := wV (Tide.pieceAt ws 2), after := wV (Tide.pieceAt ws 3), shift := wV (Tide.pieceAt ws 4) } else none
  | 2 => if rowOk wdUp ws = true then some { p with up := ⟨wV (Tide.pieceAt ws 1), wV (Tide.pieceAt ws 2), wV (Tide.pieceAt ws 3), wV (Tide.pieceAt ws 4)⟩ } else none
  | 3 => if rowOk wdDown ws = true then some { p with down := ⟨wV (Tide.pieceAt ws 1), wV (Tide.pieceAt ws 2), wV (Tide.pieceAt ws 3), wV (Tide.pieceAt ws 4)⟩ } else none
  | _ => (trigN ws).map fun t => { p with trigs := p.trigs ++ [t] }
def zeroP : Pln := ⟨⟨#[]⟩, 0, 0, 0, 0, 0, 0, 0, 0, ⟨0, 0, 0, 0⟩, ⟨0, 0, 0, 0⟩, []⟩
def wordsOf (rest : ByteArray) : List ByteArray := Tide.piecesB 32 (Tide.cutX 10 rest)
/-- from line i on: the plan that is read; none: the line told is wrong -/
def readGo : Nat → Nat → Pln → ByteArray → Option Pln × Nat
  | 0, i, _, _ => (none, i)
  | f + 1, i, p, rest =>
    if 4 ≤ i ∧ rest.size = 0 then (some p, 0)
    else if Tide.cutZ 10 rest = false then (none, i + 1)
    else match lineN i p (wordsOf rest) with
      | none => (none, i + 1)
      | some p' => readGo f (i + 1) p' (Tide.cutY 10 rest)
/-- from here on this is the answer -/
def Reads (i : Nat) (p : Pln) (rest : ByteArray) (R : Option Pln × Nat) : Prop := ∃ f, rest.size < f ∧ readGo f i p rest = R
theorem Reads.whole {i : Nat} {p : Pln} {rest : ByteArray} {R : Option Pln × Nat} (h : Reads i p rest R) (h1 : 4 ≤ i) (h2 : rest.size = 0) : R = (some p, 0) := by
  obtain ⟨f, hf, rfl⟩ := h
  obtain ⟨g, rfl⟩ : ∃ g, f = g + 1 := ⟨f - 1, by omega⟩
  unfold readGo; rw [if_pos ⟨h1, h2⟩]
theorem Reads.cut {i : Nat} {p : Pln} {rest : ByteArray} {R : Option Pln × Nat} (h : Reads i p rest R) (h1 : i < 4 ∨ 0 < rest.size) (h2 : Tide.cutZ 10 rest = false) : R = (none, i + 1) := by
  obtain ⟨f, hf, rfl⟩ := h
  obtain ⟨g, rfl⟩ : ∃ g, f = g + 1 := ⟨f - 1, by omega⟩
  unfold readGo; rw [if_neg (by omega), if_pos h2]
theorem Reads.bad {i : Nat} {p : Pln} {rest : ByteArray} {R : Option Pln × Nat} (h : Reads i p rest R) (h1 : i < 4 ∨ 0 < rest.size) (h2 : Tide.cutZ 10 rest = true) (h3 : lineN i p (wordsOf rest) = none) : R = (none, i + 1) := by
  obtain ⟨f, hf, rfl⟩ := h
  obtain ⟨g, rfl⟩ : ∃ g, f = g + 1 := ⟨f - 1, by omega⟩
  unfold readGo; rw [if_neg (by omega), if_neg (by rw [h2]; simp), h3]
theorem Reads.next {i : Nat} {p p' : Pln} {rest : ByteArray} {R : Option Pln × Nat} (h : Reads i p rest R) (h1 : i < 4 ∨ 0 < rest.size) (h2 : Tide.cutZ 10 rest = true) (h3 : lineN i p (wordsOf rest) = some p') : Reads (i + 1) p' (Tide.cutY 10 rest) R := by
  obtain ⟨f, hf, rfl⟩ := h
  obtain ⟨g, rfl⟩ : ∃ g, f = g + 1 := ⟨f - 1, by omega⟩
  refine ⟨g, by have := Tide.cutY_less h2; omega, ?_⟩
  conv => rhs; unfold readGo
  rw [if_neg (by omega), if_neg (by rw [h2]; simp), h3]
/-- the plan, the line and the error that a text tells -/
def readR (s : ByteArray) : Pln × Nat × Int :=
  if 2048 < s.size then (zeroP, 0, 2)
  else match readGo (s.size + 1) 0 zeroP s with
    | (none, k) => (zeroP, k, 3)
    | (some p, _) => if planE p = 0 then (p, 0, 0) else (zeroP, 0, planE p)
theorem crP_fits (ps : List ByteArray) : (crP ps).fits := ⟨Tide.fM_lt _ _, Tide.fM_lt _ _, Tide.fM_lt _ _, Tide.fM_lt _ _, Tide.fM_lt _ _⟩
theorem crZ_fits : crZ.fits := by unfold Cr.fits crZ; decide
theorem trigN_fits {ws : List ByteArray} {t : Trg} (h : trigN ws = some t) : t.fits := by
  unfold trigN at h
  have two : ∀ {kind : Int}, twoN kind ws = some t → t.fits := fun h => by
    unfold twoN at h
    split at h
    · cases h; exact ⟨crZ_fits, crZ_fits⟩
    · cases h
  split at h
  · exact two h
  · split at h
    · exact two h
    · split at h
      · unfold timedN at h
        split at h
        · cases h; exact ⟨crP_fits _, crP_fits _⟩
        · cases h
      · cases h
theorem ite_some {c : Prop} [Decidable c] {a b : Pln} (h : (if c then some a else none) = some b) : a = b := by
  split at h
  · cases h; rfl
  · cases h
theorem lineN_fits {i : Nat} {p q : Pln} {ws : List ByteArray} (hp : ∀ t ∈ p.trigs, t.fits) (h : lineN i p ws = some q) : ∀ t ∈ q.trigs, t.fits := by
  rcases i with _ | _ | _ | _ | i
  · have e := ite_some (c := headOk ws = true) h
    rw [← e]; exact hp
  · have e := ite_some (c := rowOk wdRest ws = true) h
    rw [← e]; exact hp
  · have e := ite_some (c := rowOk wdUp ws = true) h
    rw [← e]; exact hp
  · have e := ite_some (c := rowOk wdDown ws = true) h
    rw [← e]; exact hp
  · have h' : (trigN ws).map (fun t => { p with trigs := p.trigs ++ [t] }) = some q := h
    obtain ⟨t, ht, rfl⟩ := Option.map_eq_some_iff.1 h'
    intro u hu
    rcases List.mem_append.1 hu with hu | hu
    · exact hp u hu
    · rw [List.mem_singleton.1 hu]; exact trigN_fits ht
/-- a name alone: what a plan of it tells -/
theorem name_plan (s : ByteArray) : planE ⟨s, 0, 1, 1, 1, 0, 0, 0, 0, ⟨0, 0, 0, 0⟩, ⟨0, 0, 0, 0⟩, []⟩ = if nameOk s = true then 0 else 3 := by
  unfold planE
  cases h : nameOk s
  · rfl
  · simp only [Bool.true_eq_false, if_false, if_true]
    rfl
end Go.Proofs.YthelnkoohbnjpaaDoor
