/- What a field of a cron tells: plain. -/
import Derived.Test.YthelnkoohbnjpaaDoorTxtI
set_option linter.unusedVariables false
set_option linter.unusedSimpArgs false
namespace Tide
open Go
def itemsN (first last : Int) (ps : List ByteArray) : List Nat := ps.flatMap (itemN first last)
def fieldOk (first last : Int) (s : ByteArray) : Bool := (piecesB 44 s).all (fun p => !(itemN first last p).isEmpty)
def fieldN (first last : Int) (s : ByteArray) : Nat := maskN (itemsN first last (piecesB 44 s))
theorem itemsN_snoc (first last : Int) (ps : List ByteArray) (p : ByteArray) : itemsN first last (ps ++ [p]) = itemsN first last ps ++ itemN first last p := by
  unfold itemsN; rw [List.flatMap_append]; simp
theorem itemsN_le {first last : Nat} (hl : last ≤ 60) (ps : List ByteArray) : ∀ n ∈ itemsN first last ps, n ≤ 60 := by
  intro n hn
  obtain ⟨p, _, h⟩ := List.mem_flatMap.1 hn
  have := itemN_in (first := (first : Int)) (last := (last : Int)) (s := p) (by omega) n h
  omega
theorem mask_items_lt {first last : Nat} (hl : last ≤ 60) (ps : List ByteArray) : maskN (itemsN first last ps) < 18446744073709551616 := maskN_lt (itemsN_le hl ps)
theorem fieldOk_bad {first last : Int} {s p : ByteArray} {k : Nat} (h : (piecesB 44 s)[k]? = some p) (he : itemN first last p = []) : fieldOk first last s = false := by
  unfold fieldOk
  rw [List.all_eq_false]
  exact ⟨p, List.mem_of_getElem? h, by rw [he]; simp⟩
theorem fieldOk_good {first last : Int} {s : ByteArray} (h : ∀ p ∈ piecesB 44 s, itemN first last p ≠ []) : fieldOk first last s = true := by
  unfold fieldOk
  rw [List.all_eq_true]
  intro p hp
  have := h p hp
  cases hi : itemN first last p with
  | nil => exact absurd hi this
  | cons a l => rfl
theorem pieces_isB {c : UInt8} {s : ByteArray} {ps : List ByteArray} (h : ps.map (fun x : ByteArray => x.data.toList) = pieces c s.data.toList) : ps = piecesB c s := by
  have h2 := h.trans (piecesB_data c s).symm
  have hinj : Function.Injective (fun x : ByteArray => x.data.toList) := fun a b e => ba_ext e
  exact (List.map_inj_right (fun _ _ e => hinj e)).1 h2
theorem star_pieces : piecesB 44 star = [star] := (pieces_isB (ps := [star]) rfl).symm
theorem star_item (first last : Int) (h : first ≤ last) : itemN first last star = spreadN first last first last 1 := by
  have e : cutX 47 star = star := rfl
  have e2 : cutZ 47 star = false := rfl
  exact itemN_else (by unfold itBad; rw [e]; simp) (if_pos e) (if_pos e) (if_neg (by rw [e2]; simp))
def lim : Nat → Nat × Nat
  | 0 => (0, 59)
  | 1 => (0, 23)
  | 2 => (1, 31)
  | 3 => (1, 12)
  | _ => (0, 6)
theorem lim_le (k : Nat) : (lim k).1 ≤ (lim k).2 ∧ (lim k).2 ≤ 60 := by
  unfold lim; split <;> exact ⟨by decide, by decide⟩
set_option maxRecDepth 100000 in
theorem lim_all (k : Nat) : maskN (ticksF 100 ((lim k).1 : Int) ((lim k).2 : Int) 1) = allN (lim k).1 (lim k).2 := by
  unfold lim; split <;> decide +kernel
theorem star_field (k : Nat) : fieldOk (lim k).1 (lim k).2 star = true ∧ fieldN (lim k).1 (lim k).2 star = allN (lim k).1 (lim k).2 := by
  have hl := (lim_le k).1
  have h : itemN (lim k).1 (lim k).2 star = ticksF 100 ((lim k).1 : Int) ((lim k).2 : Int) 1 := by
    rw [star_item _ _ (by omega), spread_some (by omega) (by omega) (by omega)]
  refine ⟨?_, ?_⟩
  · unfold fieldOk
    rw [star_pieces, List.all_cons, h]
    obtain ⟨g, _, e⟩ := ticksF_more (f := 100) (n := ((lim k).1 : Int)) (hi := ((lim k).2 : Int)) (e := 1) (by have := (lim_le k).2; omega) (by omega)
    rw [e]; rfl
  · unfold fieldN itemsN
    rw [star_pieces]
    show maskN (itemN (lim k).1 (lim k).2 star ++ []) = _
    rw [List.append_nil, h, lim_all]
/-- the pieces of a cron's text; one of them -/
def pieceAt (ps : List ByteArray) (k : Nat) : ByteArray := ps.getD k ⟨#[]⟩
theorem pieceAt_get {ps : List ByteArray} {k : Nat} {p : ByteArray} (h : ps[k]? = some p) : pieceAt ps k = p := by unfold pieceAt; rw [List.getD_eq_getElem?_getD, h]; rfl
def fOk (ps : List ByteArray) (k : Nat) : Bool := fieldOk (lim k).1 (lim k).2 (pieceAt ps k)
def fM (ps : List ByteArray) (k : Nat) : Nat := fieldN (lim k).1 (lim k).2 (pieceAt ps k)
def isAny (ps : List ByteArray) (k : Nat) : Bool := (pieceAt ps k).toList == [42]
theorem fM_lt (ps : List ByteArray) (k : Nat) : fM ps k < 18446744073709551616 := mask_items_lt (lim_le k).2 _
/-- a cron's text is right -/
def cronOk (s : ByteArray) : Bool := decide (s.size ≤ 300) && decide ((piecesB 32 s).length = 5) && (List.range 5).all (fOk (piecesB 32 s))
def cronCode (s : ByteArray) : Int := if 300 < s.size then 2 else if cronOk s = true then 0 else 3
theorem cronOk_bad {s : ByteArray} {k : Nat} (hk : k < 5) (h : fOk (piecesB 32 s) k = false) : cronOk s = false := by
  unfold cronOk
  have : (List.range 5).all (fOk (piecesB 32 s)) = false := by
    rw [List.all_eq_false]; exact ⟨k, List.mem_range.2 hk, by rw [h]; simp⟩
  rw [this]; simp
theorem cronOk_few {s : ByteArray} (h : (piecesB 32 s).length ≠ 5) : cronOk s = false := by unfold cronOk; simp [h]
theorem cronOk_good {s : ByteArray} (h0 : s.size ≤ 300) (h : (piecesB 32 s).length = 5) (hk : ∀ k < 5, fOk (piecesB 32 s) k = true) : cronOk s = true := by
  unfold cronOk
  rw [decide_eq_true h0, decide_eq_true h, show (List.range 5).all (fOk (piecesB 32 s)) = true from by rw [List.all_eq_true]; exact fun k hk2 => hk k (List.mem_range.1 hk2)]
  rfl
end Tide
