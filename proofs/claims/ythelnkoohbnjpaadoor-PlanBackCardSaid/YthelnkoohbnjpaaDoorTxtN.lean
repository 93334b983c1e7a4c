/- Texts: numbers of some digits; the library's Split and Cut at one byte; plain, and their contracts. -/
import Derived.Test.YthelnkoohbnjpaaDoorTxtM
import Derived.Test.YthelnkoohbnjpaaDoorShelf
import Derived.Test.YthelnkoohbnjpaaDoorZPln
import Derived.Shelf.Strings.PiecesUse
set_option linter.unusedVariables false
set_option linter.unusedSimpArgs false
namespace Tide
open Go
def digB (b : UInt8) : Bool := decide (48 ≤ b.toNat) && decide (b.toNat ≤ 57)
def valL (l : List UInt8) : Int := l.foldl (fun n b => 10 * n + ((b.toNat : Int) - 48)) 0
/-- a number of so many digits at the most; -1: none -/
def numL (most : Nat) (l : List UInt8) : Int := if 1 ≤ l.length ∧ l.length ≤ most ∧ l.all digB = true then valL l else -1
theorem valL_snoc (l : List UInt8) (b : UInt8) : valL (l ++ [b]) = 10 * valL l + ((b.toNat : Int) - 48) := by unfold valL; rw [List.foldl_append]; rfl
theorem valL_bd : ∀ (n : Nat) (l : List UInt8), l.length = n → l.all digB = true → 0 ≤ valL l ∧ valL l < 10 ^ n := by
  intro n
  induction n with
  | zero => intro l h _; obtain rfl : l = [] := List.length_eq_zero_iff.1 h; exact ⟨by decide, by decide⟩
  | succ n ih =>
    intro l h ha
    have hne : l ≠ [] := by intro e; rw [e] at h; simp at h
    have e := List.dropLast_concat_getLast hne
    have h1 : l.dropLast.length = n := by rw [List.length_dropLast, h]; rfl
    rw [← e, List.all_append, Bool.and_eq_true] at ha
    have hb := ha.2
    simp only [List.all_cons, List.all_nil, Bool.and_true] at hb
    unfold digB at hb
    rw [Bool.and_eq_true, decide_eq_true_eq, decide_eq_true_eq] at hb
    have := ih _ h1 ha.1
    rw [← e, valL_snoc]
    have e10 : (10 : Int) ^ (n + 1) = 10 * 10 ^ n := by rw [Int.pow_succ, Int.mul_comm]
    rw [e10]
    omega
theorem numL_yes {most : Nat} {l : List UInt8} (h1 : 1 ≤ l.length) (h2 : l.length ≤ most) (h3 : l.all digB = true) : numL most l = valL l := by unfold numL; rw [if_pos ⟨h1, h2, h3⟩]
theorem numL_size {most : Nat} {l : List UInt8} (h : l.length < 1 ∨ most < l.length) : numL most l = -1 := by unfold numL; rw [if_neg (by omega)]
theorem numL_bad {most : Nat} {l : List UInt8} {k : Nat} {b : UInt8} (h : l[k]? = some b) (hb : digB b = false) : numL most l = -1 := by
  unfold numL
  rw [if_neg]
  rintro ⟨_, _, h3⟩
  rw [List.all_eq_true] at h3
  rw [h3 b (List.mem_of_getElem? h)] at hb; cases hb
theorem numL_bd (most : Nat) (l : List UInt8) : -1 ≤ numL most l ∧ numL most l < 10 ^ most := by
  unfold numL
  split
  · rename_i h
    have := valL_bd l.length l rfl h.2.2
    have h2 : (10 : Int) ^ l.length ≤ 10 ^ most := by
      have := Nat.pow_le_pow_right (show 0 < 10 by decide) h.2.1
      exact_mod_cast this
    omega
  · have : (0 : Int) < 10 ^ most := by exact_mod_cast Nat.pow_pos (n := most) (show 0 < 10 by decide)
    omega
def piecesB (c : UInt8) (s : ByteArray) : List ByteArray := Lib.splitB ⟨#[c]⟩ 0 (Lib.countB s ⟨#[c]⟩) s
theorem piecesB_data (c : UInt8) (s : ByteArray) : (piecesB c s).map (·.data.toList) = pieces c s.data.toList := split_is c s
theorem piecesB_length (c : UInt8) (s : ByteArray) : (piecesB c s).length = Lib.countB s ⟨#[c]⟩ + 1 := Lib.splitB_all ⟨#[c]⟩ (Nat.le_refl 1) 0 _ s rfl
theorem piecesB_many (c : UInt8) (s : ByteArray) : (piecesB c s).length = (pieces c s.data.toList).length := by rw [← piecesB_data, List.length_map]
theorem piecesB_get {c : UInt8} {s : ByteArray} {k : Nat} {x : ByteArray} (h : (piecesB c s)[k]? = some x) : (pieces c s.data.toList)[k]? = some x.data.toList := by
  rw [← piecesB_data, List.getElem?_map, h]; rfl
theorem ba_size (s : ByteArray) : s.size = s.data.toList.length := by rw [Array.length_toList]; rfl
theorem piecesB_le {c : UInt8} {s x : ByteArray} (h : x ∈ piecesB c s) : x.size ≤ s.size := by
  have h1 : x.data.toList ∈ pieces c s.data.toList := by rw [← piecesB_data]; exact List.mem_map_of_mem h
  have := pieces_le c _ _ h1
  rw [ba_size, ba_size]; exact this
theorem piecesB_few (c : UInt8) (s : ByteArray) : (piecesB c s).length ≤ s.size + 1 := by
  rw [piecesB_many, pieces_many, ba_size]
  have := List.count_le_length (a := c) (l := s.data.toList)
  omega
end Tide
namespace Go.Proofs.YthelnkoohbnjpaaDoor
open Go.RowKit
theorem byte_get {s : ByteArray} {k : Nat} (h : k < s.size) : ∃ b : UInt8, s.data.toList[k]? = some b ∧ byteAt s k = b.toNat := by
  have h' : k < s.data.size := h
  refine ⟨s.data[k], by rw [Array.getElem?_toList, Array.getElem?_eq_getElem h'], ?_⟩
  unfold byteAt
  rw [Array.getElem?_eq_getElem h']; rfl
/-- the library's Split at one byte -/
theorem shlSplit (c : UInt8) (s : ByteArray) (m : Int) (w : World) (hs : s.size ≤ 1000000) (hm : w.cell? ⟨0, 0, none⟩ = some (.int .i64 m)) :
    Calls Tryd.prog 26 #[.string s, .string ⟨#[c]⟩] w fun e w' => e = .returned (.slice (some ⟨w.heap.size, 0, none⟩) (Tide.piecesB c s).length (Tide.piecesB c s).length) ∧ w' = w.alloc (.cells ((Tide.piecesB c s).map Value.string).toArray 9) := by
  rw [Tide.piecesB_length]
  exact Tryd.strings_Split s ⟨#[c]⟩ m w (by omega) hm (Nat.le_refl 1)
/-- the library's Cut at one byte -/
theorem shlCut (c : UInt8) (s : ByteArray) (m : Int) (w : World) (hs : s.size ≤ 1000000) (hm : w.cell? ⟨0, 0, none⟩ = some (.int .i64 m)) :
    Calls Tryd.prog 72 #[.string s, .string ⟨#[c]⟩] w fun e w' => e = .returned (.tuple #[.string ⟨(Tide.cutB c s.data.toList).1.toArray⟩, .string ⟨(Tide.cutB c s.data.toList).2.1.toArray⟩, .bool (Tide.cutB c s.data.toList).2.2]) ∧ Below w.heap.size w w' := by
  have h := Tryd.strings_Cut s ⟨#[c]⟩ m w (by omega) hm
  have e : Lib.cut s.data.toList (⟨#[c]⟩ : ByteArray).data.toList = Tide.cutB c s.data.toList := Tide.cut_is c _
  rw [e] at h
  exact h.mono fun _ _ ⟨h1, n, h2⟩ => ⟨h1, by rw [h2]; exact below_drewN (Below.refl _ _) n⟩
end Go.Proofs.YthelnkoohbnjpaaDoor
