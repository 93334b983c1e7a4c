/- Parts of this claim: DskK, LinP, RefW, DskL. -/
import Derived.Test.YtoidcbpcnikejaaGreatDoorDq29
set_option linter.unusedVariables false
set_option linter.unusedSimpArgs false
set_option maxRecDepth 100000
set_option maxHeartbeats 12800000
namespace Go.Proofs.YtoidcbpcnikejaaGreatDoor
open Go.RowKit
set_option maxRecDepth 100000
set_option maxHeartbeats 3200000
def KindPost (v : ByteArray) (w : World) (e : Ending) (w' : World) : Prop := e = .returned (.tuple #[.int .i64 (kindN v).1, .int .i64 ((kindN v).2 : Int)]) ∧ w = w'
theorem kind_is {v : ByteArray} {w : World} {k : Int} {n : Nat} (h : kindN v = (k, n)) : KindPost v w (.returned (.tuple #[.int .i64 k, .int .i64 (n : Int)])) w := ⟨by rw [h], rfl⟩
theorem kind_none {v : ByteArray} (h0 : v ≠ vTick) (h1 : v ≠ vPut) (h2 : v ≠ vLease) (h3 : v ≠ vAck) (h4 : v ≠ vStart) (h5 : v ≠ vReady) (h6 : v ≠ vCrash) (h7 : v ≠ vDone) (h8 : v ≠ vPause) (h9 : v ≠ vMake) (h10 : v ≠ vTake) (h11 : v ≠ vFail) (h12 : v ≠ vAsk) : kindN v = (0, 0) := by
 unfold kindN kindT
 simp [fun e : vTick = v => h0 e.symm, fun e : vPut = v => h1 e.symm, fun e : vLease = v => h2 e.symm, fun e : vAck = v => h3 e.symm, fun e : vStart = v => h4 e.symm, fun e : vReady = v => h5 e.symm, fun e : vCrash = v => h6 e.symm, fun e : vDone = v => h7 e.symm, fun e : vPause = v => h8 e.symm, fun e : vMake = v => h9 e.symm, fun e : vTake = v => h10 e.symm, fun e : vFail = v => h11 e.symm, fun e : vAsk = v => h12 e.symm, Ne.symm h0, Ne.symm h1, Ne.symm h2, Ne.symm h3, Ne.symm h4, Ne.symm h5, Ne.symm h6, Ne.symm h7, Ne.symm h8, Ne.symm h9, Ne.symm h10, Ne.symm h11, Ne.symm h12]
theorem deskKind (v : ByteArray) (w : World) : Calls Tryz.prog 38 #[.string v] w (KindPost v w) := by
 by_cases h0 : v = vTick
 ·have HF := J (show KindPost v w (.returned (.tuple #[.int .i64 1, .int .i64 1])) w from kind_is (n := 1) (by rw [h0]; rfl))
  have q0 : (v.toList == [116, 105, 99, 107]) = true := word_eq (y := vTick) (by rw [ByteArray.toList_eq]; rfl) h0
  clear h0
  go_enter Tryz.func38, Tryz.ntmps38
  go_wp2_with fail
  go_ret2
  exact HF.u
 have q0 : (v.toList == [116, 105, 99, 107]) = false := word_ne (y := vTick) (by rw [ByteArray.toList_eq]; rfl) h0
 by_cases h1 : v = vPut
 ·have HF := J (show KindPost v w (.returned (.tuple #[.int .i64 4, .int .i64 1])) w from kind_is (n := 1) (by rw [h1]; rfl))
  have q1 : (v.toList == [112, 117, 116]) = true := word_eq (y := vPut) (by rw [ByteArray.toList_eq]; rfl) h1
  clear h1
  go_enter Tryz.func38, Tryz.ntmps38
  go_wp2_with fail
  go_ret2
  exact HF.u
 have q1 : (v.toList == [112, 117, 116]) = false := word_ne (y := vPut) (by rw [ByteArray.toList_eq]; rfl) h1
 by_cases h2 : v = vLease
 ·have HF := J (show KindPost v w (.returned (.tuple #[.int .i64 5, .int .i64 1])) w from kind_is (n := 1) (by rw [h2]; rfl))
  have q2 : (v.toList == [108, 101, 97, 115, 101]) = true := word_eq (y := vLease) (by rw [ByteArray.toList_eq]; rfl) h2
  clear h2
  go_enter Tryz.func38, Tryz.ntmps38
  go_wp2_with fail
  go_ret2
  exact HF.u
 have q2 : (v.toList == [108, 101, 97, 115, 101]) = false := word_ne (y := vLease) (by rw [ByteArray.toList_eq]; rfl) h2
 by_cases h3 : v = vAck
 ·have HF := J (show KindPost v w (.returned (.tuple #[.int .i64 6, .int .i64 1])) w from kind_is (n := 1) (by rw [h3]; rfl))
  have q3 : (v.toList == [97, 99, 107]) = true := word_eq (y := vAck) (by rw [ByteArray.toList_eq]; rfl) h3
  clear h3
  go_enter Tryz.func38, Tryz.ntmps38
  go_wp2_with fail
  go_ret2
  exact HF.u
 have q3 : (v.toList == [97, 99, 107]) = false := word_ne (y := vAck) (by rw [ByteArray.toList_eq]; rfl) h3
 by_cases h4 : v = vStart
 ·have HF := J (show KindPost v w (.returned (.tuple #[.int .i64 8, .int .i64 1])) w from kind_is (n := 1) (by rw [h4]; rfl))
  have q4 : (v.toList == [115, 116, 97, 114, 116]) = true := word_eq (y := vStart) (by rw [ByteArray.toList_eq]; rfl) h4
  clear h4
  go_enter Tryz.func38, Tryz.ntmps38
  go_wp2_with fail
  go_ret2
  exact HF.u
 have q4 : (v.toList == [115, 116, 97, 114, 116]) = false := word_ne (y := vStart) (by rw [ByteArray.toList_eq]; rfl) h4
 by_cases h5 : v = vReady
 ·have HF := J (show KindPost v w (.returned (.tuple #[.int .i64 9, .int .i64 1])) w from kind_is (n := 1) (by rw [h5]; rfl))
  have q5 : (v.toList == [114, 101, 97, 100, 121]) = true := word_eq (y := vReady) (by rw [ByteArray.toList_eq]; rfl) h5
  clear h5
  go_enter Tryz.func38, Tryz.ntmps38
  go_wp2_with fail
  go_ret2
  exact HF.u
 have q5 : (v.toList == [114, 101, 97, 100, 121]) = false := word_ne (y := vReady) (by rw [ByteArray.toList_eq]; rfl) h5
 by_cases h6 : v = vCrash
 ·have HF := J (show KindPost v w (.returned (.tuple #[.int .i64 10, .int .i64 1])) w from kind_is (n := 1) (by rw [h6]; rfl))
  have q6 : (v.toList == [99, 114, 97, 115, 104]) = true := word_eq (y := vCrash) (by rw [ByteArray.toList_eq]; rfl) h6
  clear h6
  go_enter Tryz.func38, Tryz.ntmps38
  go_wp2_with fail
  go_ret2
  exact HF.u
 have q6 : (v.toList == [99, 114, 97, 115, 104]) = false := word_ne (y := vCrash) (by rw [ByteArray.toList_eq]; rfl) h6
 by_cases h7 : v = vDone
 ·have HF := J (show KindPost v w (.returned (.tuple #[.int .i64 12, .int .i64 1])) w from kind_is (n := 1) (by rw [h7]; rfl))
  have q7 : (v.toList == [100, 111, 110, 101]) = true := word_eq (y := vDone) (by rw [ByteArray.toList_eq]; rfl) h7
  clear h7
  go_enter Tryz.func38, Tryz.ntmps38
  go_wp2_with fail
  go_ret2
  exact HF.u
 have q7 : (v.toList == [100, 111, 110, 101]) = false := word_ne (y := vDone) (by rw [ByteArray.toList_eq]; rfl) h7
 by_cases h8 : v = vPause
 ·have HF := J (show KindPost v w (.returned (.tuple #[.int .i64 13, .int .i64 1])) w from kind_is (n := 1) (by rw [h8]; rfl))
  have q8 : (v.toList == [112, 97, 117, 115, 101]) = true := word_eq (y := vPause) (by rw [ByteArray.toList_eq]; rfl) h8
  clear h8
  go_enter Tryz.func38, Tryz.ntmps38
  go_wp2_with fail
  go_ret2
  exact HF.u
 have q8 : (v.toList == [112, 97, 117, 115, 101]) = false := word_ne (y := vPause) (by rw [ByteArray.toList_eq]; rfl) h8
 by_cases h9 : v = vMake
 ·have HF := J (show KindPost v w (.returned (.tuple #[.int .i64 2, .int .i64 2])) w from kind_is (n := 2) (by rw [h9]; rfl))
  have q9 : (v.toList == [109, 97, 107, 101]) = true := word_eq (y := vMake) (by rw [ByteArray.toList_eq]; rfl) h9
  clear h9
  go_enter Tryz.func38, Tryz.ntmps38
  go_wp2_with fail
  go_ret2
  exact HF.u
 have q9 : (v.toList == [109, 97, 107, 101]) = false := word_ne (y := vMake) (by rw [ByteArray.toList_eq]; rfl) h9
 by_cases h10 : v = vTake
 ·have HF := J (show KindPost v w (.returned (.tuple #[.int .i64 3, .int .i64 2])) w from kind_is (n := 2) (by rw [h10]; rfl))
  have q10 : (v.toList == [116, 97, 107, 101]) = true := word_eq (y := vTake) (by rw [ByteArray.toList_eq]; rfl) h10
  clear h10
  go_enter Tryz.func38, Tryz.ntmps38
  go_wp2_with fail
  go_ret2
  exact HF.u
 have q10 : (v.toList == [116, 97, 107, 101]) = false := word_ne (y := vTake) (by rw [ByteArray.toList_eq]; rfl) h10
 by_cases h11 : v = vFail
 ·have HF := J (show KindPost v w (.returned (.tuple #[.int .i64 7, .int .i64 2])) w from kind_is (n := 2) (by rw [h11]; rfl))
  have q11 : (v.toList == [102, 97, 105, 108]) = true := word_eq (y := vFail) (by rw [ByteArray.toList_eq]; rfl) h11
  clear h11
  go_enter Tryz.func38, Tryz.ntmps38
  go_wp2_with fail
  go_ret2
  exact HF.u
 have q11 : (v.toList == [102, 97, 105, 108]) = false := word_ne (y := vFail) (by rw [ByteArray.toList_eq]; rfl) h11
 by_cases h12 : v = vAsk
 ·have HF := J (show KindPost v w (.returned (.tuple #[.int .i64 11, .int .i64 2])) w from kind_is (n := 2) (by rw [h12]; rfl))
  have q12 : (v.toList == [97, 115, 107]) = true := word_eq (y := vAsk) (by rw [ByteArray.toList_eq]; rfl) h12
  clear h12
  go_enter Tryz.func38, Tryz.ntmps38
  go_wp2_with fail
  go_ret2
  exact HF.u
 have q12 : (v.toList == [97, 115, 107]) = false := word_ne (y := vAsk) (by rw [ByteArray.toList_eq]; rfl) h12
 have HF := J (show KindPost v w (.returned (.tuple #[.int .i64 0, .int .i64 0])) w from kind_is (n := 0) (kind_none h0 h1 h2 h3 h4 h5 h6 h7 h8 h9 h10 h11 h12))
 clear h0 h1 h2 h3 h4 h5 h6 h7 h8 h9 h10 h11 h12
 go_enter Tryz.func38, Tryz.ntmps38
 go_wp2_with fail
 go_ret2
 exact HF.u
end Go.Proofs.YtoidcbpcnikejaaGreatDoor
namespace G
open Go
def addSep (c : UInt8) : List (List UInt8) → List (List UInt8)
 | [] => []
 | [p] => [p]
 | p :: q :: ps => (p ++ [c]) :: addSep c (q :: ps)
theorem splitK_pos (sep : List UInt8) (sv k : Nat) (s : List UInt8) : ∃ p ps, Lib.splitK sep sv k s = p :: ps := by
 cases k with
 | zero => exact ⟨_, _, rfl⟩
 | succ k => unfold Lib.splitK; split <;> exact ⟨_, _, rfl⟩
theorem index_hit (c : UInt8) : ∀ (l : List UInt8) (i : Nat), Lib.index l [c] = i → l.take (i + 1) = l.take i ++ [c]
 | [], i, h => by
  have e : Lib.index [] [c] = -1 := rfl
  rw [e] at h; omega
 | b :: l, i, h => by
  by_cases hb : b = c
  ·subst hb
   rw [index_cons_eq] at h
   obtain rfl : i = 0 := by omega
   rfl
  rw [index_cons_ne hb] at h
  have hg := Lib.index_ge l [c]
  split at h
  ·omega
  obtain ⟨j, rfl⟩ : ∃ j, i = j + 1 := ⟨i - 1, by omega⟩
  rw [List.take_succ_cons, List.take_succ_cons, index_hit c l j (by omega)]; rfl
theorem splitK_after (c : UInt8) : ∀ (k : Nat) (l : List UInt8), Lib.splitK [c] 1 k l = addSep c (Lib.splitK [c] 0 k l)
 | 0, l => rfl
 | k + 1, l => by
  by_cases hm : Lib.index l [c] = -1
  ·rw [Lib.splitK, Lib.splitK, hm]; rfl
  have hg := Lib.index_ge l [c]
  obtain ⟨i, hi⟩ : ∃ i : Nat, Lib.index l [c] = i := ⟨(Lib.index l [c]).toNat, by omega⟩
  obtain ⟨p, ps, e⟩ := splitK_pos [c] 0 k (l.drop (i + 1))
  have ih := splitK_after c k (l.drop (i + 1))
  rw [e] at ih
  have hb : (Lib.index l [c] == -1) = false := by simpa using hm
  have h1 : Lib.splitK [c] 1 (k + 1) l = l.take (i + 1) :: Lib.splitK [c] 1 k (l.drop (i + 1)) := by
   rw [Lib.splitK, hb, hi]; rfl
  have h2 : Lib.splitK [c] 0 (k + 1) l = l.take i :: Lib.splitK [c] 0 k (l.drop (i + 1)) := by
   rw [Lib.splitK, hb, hi]; rfl
  rw [h1, h2, ih, e, index_hit c l i hi]; rfl
theorem addSep_length (c : UInt8) : ∀ ps : List (List UInt8), (addSep c ps).length = ps.length
 | [] => rfl
 | [p] => rfl
 | p :: q :: ps => by
  have := addSep_length c (q :: ps)
  rw [addSep, List.length_cons, this]; rfl
theorem addSep_last (c : UInt8) : ∀ ps : List (List UInt8), (addSep c ps).getLast? = ps.getLast?
 | [] => rfl
 | [p] => rfl
 | p :: q :: ps => by
  have := addSep_last c (q :: ps)
  have hl := addSep_length c (q :: ps)
  rw [addSep, List.getLast?_cons_cons]
  cases h : addSep c (q :: ps) with
  | nil => rw [h] at hl; simp at hl
  | cons x xs => rw [List.getLast?_cons_cons, ← h, this]
theorem addSep_get (c : UInt8) : ∀ (ps : List (List UInt8)) (k : Nat) (x : List UInt8), (addSep c ps)[k]? = some x → ∃ p, ps[k]? = some p ∧ (x = p ∨ x = p ++ [c])
 | [], k, x, h => by simp [addSep] at h
 | [p], k, x, h => ⟨x, h, .inl rfl⟩
 | p :: q :: ps, 0, x, h => ⟨p, rfl, .inr (by rw [addSep] at h; exact (Option.some.inj h).symm)⟩
 | p :: q :: ps, k + 1, x, h => by
  rw [addSep, List.getElem?_cons_succ] at h
  rw [List.getElem?_cons_succ]
  exact addSep_get c (q :: ps) k x h
theorem trim_is {c : UInt8} {p x : List UInt8} (h : c ∉ p) (hx : x = p ∨ x = p ++ [c]) : Lib.trimSuffix x [c] = p := by
 unfold Lib.trimSuffix Lib.hasSuffix
 rcases hx with rfl | rfl
 ·rw [if_neg]
  intro hs
  rw [List.isSuffixOf_iff_suffix] at hs
  exact h (hs.subset (by simp))
 rw [if_pos (by rw [List.isSuffixOf_iff_suffix]; exact List.suffix_append p [c])]
 simp
theorem after_is (t : ByteArray) : (Lib.splitB ⟨#[10]⟩ 1 (Lib.countB t ⟨#[10]⟩) t).map (fun x : ByteArray => x.data.toList) = addSep 10 (pieces 10 t.data.toList) := by
 have h := Lib.splitB_data ⟨#[10]⟩ 1 (Lib.countB t ⟨#[10]⟩) t
 have h2 := Lib.splitB_data ⟨#[10]⟩ 0 (Lib.countB t ⟨#[10]⟩) t
 rw [split_is] at h2
 rw [h2]
 exact h.trans (splitK_after 10 _ _)
end G
namespace Go.Proofs.YtoidcbpcnikejaaGreatDoor
open Go.RowKit
def Aft (t : ByteArray) (ls : List ByteArray) : Prop := ls.map (fun x : ByteArray => x.data.toList) = G.addSep 10 (G.pieces 10 t.data.toList)
theorem Aft.pos {t : ByteArray} {ls : List ByteArray} (h : Aft t ls) : 0 < ls.length := by
 have := congrArg List.length h
 rw [List.length_map, G.addSep_length] at this
 have := G.pieces_pos 10 t.data.toList
 omega
theorem Aft.few {t : ByteArray} {ls : List ByteArray} (h : Aft t ls) : ls.length ≤ t.size + 1 := by
 have := congrArg List.length h
 rw [List.length_map, G.addSep_length, G.pieces_many] at this
 have h2 := List.count_le_length (a := (10 : UInt8)) (l := t.data.toList)
 rw [← G.ba_size] at h2
 omega
theorem Aft.cut {t : ByteArray} {ls : List ByteArray} (h : Aft t ls) {x : ByteArray} (hx : ls.getLast? = some x) : (linesB t).length = if x.data.toList = [] then ls.length - 1 else ls.length := by
 have hl := congrArg List.length h
 rw [List.length_map, G.addSep_length] at hl
 have hg := congrArg List.getLast? h
 rw [List.getLast?_map, hx, G.addSep_last, Option.map_some] at hg
 unfold linesB
 rw [← hg, hl]
 by_cases hc : x.data.toList = []
 ·rw [if_pos hc, if_pos (by rw [hc]), List.length_dropLast]
 rw [if_neg hc, if_neg (fun e => hc (Option.some.inj e))]
theorem lines_get {t : ByteArray} {k : Nat} (hk : k < (linesB t).length) : (linesB t)[k]? = (G.pieces 10 t.data.toList)[k]? := by
 unfold linesB at hk ⊢
 split at hk
 ·rename_i h
  rw [if_pos h, List.dropLast_eq_take, List.getElem?_take, if_pos]
  rw [List.length_dropLast] at hk; exact hk
 rename_i h
 rw [if_neg h]
theorem Aft.get {t : ByteArray} {ls : List ByteArray} (h : Aft t ls) {k : Nat} {x : ByteArray} (hx : ls[k]? = some x) (hk : k < (linesB t).length) : ∃ p, (linesB t)[k]? = some p ∧ Lib.trimSuffix x.data.toList [10] = p ∧ p.length ≤ t.size ∧ x.size ≤ t.size + 1 := by
 have h1 : (G.addSep 10 (G.pieces 10 t.data.toList))[k]? = some x.data.toList := by rw [← h, List.getElem?_map, hx]; rfl
 obtain ⟨p, h2, h3⟩ := G.addSep_get 10 _ k _ h1
 have hm := List.mem_of_getElem? h2
 exact ⟨p, by rw [lines_get hk]; exact h2, G.trim_is (G.pieces_none 10 _ p hm) h3, by rw [G.ba_size]; exact G.pieces_le 10 _ p hm, by
  have hl := G.pieces_le 10 _ p hm
  rw [← G.ba_size] at hl
  rw [G.ba_size]
  rcases h3 with h3 | h3
  ·rw [h3]; omega
  rw [h3, List.length_append]; show p.length + 1 ≤ _; omega⟩
open Go.RowKit
def LinesPost (s : ByteArray) (w : World) (e : Ending) (w' : World) : Prop := ∃ (v : Value) (ps : List ByteArray), e = .returned v ∧ ps.map (fun x : ByteArray => x.data.toList) = linesB s ∧ WdsIn w' v ps ∧ Below w.heap.size w w'
theorem wds_row {S : Nat → Prop} {w : World} {v : Value} {ps : List ByteArray} (h : G.OwnRow S w 9 1 v ps.length (ps.map Value.string)) : WdsIn w v ps := by
 obtain ⟨A, cap, rfl, h1, h2, h3⟩ := h.slice
 refine ⟨A, cap, rfl, h1, fun h0 => ?_⟩
 obtain ⟨g, e, _, hr⟩ := h3 h0
 exact ⟨g, 0, e, fun i x hi => by rw [Nat.zero_add]; exact hr.cell (by rw [List.getElem?_map, hi]; rfl), hr.inside⟩
theorem lines_pieces {s : ByteArray} {ps : List ByteArray} (h : ps.map (fun x : ByteArray => x.data.toList) = G.pieces 10 s.data.toList) : 0 < ps.length ∧ linesB s = if ps.getLast?.map (fun x : ByteArray => x.data.toList) = some [] then (ps.dropLast.map fun x : ByteArray => x.data.toList) else ps.map fun x : ByteArray => x.data.toList := by
 refine ⟨?_, ?_⟩
 ·have := congrArg List.length h
  rw [List.length_map] at this
  rw [this]; exact G.pieces_pos _ _
 unfold linesB
 rw [← h, List.getLast?_map, List.map_dropLast]
theorem refLines (s : ByteArray) (hs : s.size ≤ 3000000) (w : World) : Calls Tryz.prog 6 #[.string s] w (LinesPost s w) := by
 have HP := J (fun W => refPiecesL 10 s hs W)
 have HS := J hs
 clear hs
 go_enter Tryz.func6, Tryz.ntmps6
 go_wp2_with fail
 refine (HP.u _).mono ?_
 rintro e w2 ⟨v, ps, rfl, hps, hrow, hb⟩
 obtain ⟨hpos, hl⟩ := lines_pieces hps
 obtain ⟨N, hN⟩ : ∃ N, ps.length = N + 1 := ⟨ps.length - 1, by omega⟩
 have hmany : ps.length ≤ 3000001 := by
  have := congrArg List.length hps
  rw [List.length_map, G.pieces_many] at this
  have h2 := List.count_le_length (a := (10 : UInt8)) (l := s.data.toList)
  rw [← G.ba_size] at h2
  have := HS.u; omega
 have HW := J (wds_row hrow)
 obtain ⟨A, cap, e, hcap, hA⟩ := wds_row hrow
 obtain ⟨b, off, e1, hW⟩ := hA hpos
 subst e1
 subst e
 obtain ⟨x, hlast⟩ := G.get_some ps (i := N) (by omega)
 have hgl : ps.getLast? = some x := by rw [List.getLast?_eq_getElem?, hN]; exact hlast
 rw [hgl] at hl
 have c0 : w2.cell? ⟨b, off + N, none⟩ = some (.string x) := hW.cell N x hlast
 have HL := J hl; have HB := J hb; have HWd := J hW; have HCap := J hcap; have HNe := J hN
 have HW2 := J (show WdsIn w2 (.slice (some ⟨b, off, none⟩) ps.length cap) ps from HW.u)
 obtain ⟨M, hM⟩ : ∃ M, ps.length = M := ⟨_, rfl⟩
 rw [hM] at hN hmany HW2 ⊢
 clear hM
 have q1 : IntKind.i64.wrap ((M : Int) - 1) = (N : Int) := by
  have e := IntWalk.i64_in ((M : Int) - 1) (by omega)
  rw [e]; omega
 have i0 : (0 : Int) ≤ (N : Int) := by omega
 have i1 : (N : Int) < (M : Int) := by omega
 have i2 : (N : Int) ≤ (cap : Int) := by have := HCap.u; have := HNe.u; omega
 clear hps hrow hb hl hW hcap hA hpos hlast hgl hN hmany HP
 by_cases hx : x.data.toList = []
 ·have e0 : (x.toList == []) = true := by rw [ByteArray.toList_eq, hx]; rfl
  have HF := J (show LinesPost s w (.returned (.slice (some ⟨b, off, none⟩) N cap)) w2 from ⟨_, ps.take N, rfl, by
   rw [HL.u, if_pos (by rw [Option.map_some, hx]), List.dropLast_eq_take, HNe.u]; rfl, ⟨some ⟨b, off, none⟩, cap, by rw [List.length_take, HNe.u, Nat.min_eq_left (Nat.le_succ N)], by rw [List.length_take]; have := HCap.u; omega, fun h0 => ⟨b, off, rfl, HWd.u.take N⟩⟩, HB.u⟩)
  clear hx
  go_wp2_with fail
  go_ret
  exact HF.u
 have e0 : (x.toList == []) = false := by rw [ByteArray.toList_eq]; simpa using hx
 have HF := J (show LinesPost s w (.returned (.slice (some ⟨b, off, none⟩) M cap)) w2 from ⟨_, ps, rfl, by
  rw [HL.u, if_neg (by rw [Option.map_some]; intro h; exact hx (Option.some.inj h))], HW2.u, HB.u⟩)
 clear hx
 go_wp2_with fail
 go_ret
 exact HF.u
structure WRun (ks : List ByteArray) (w wr : World) (v : Value) : Prop where
 row : G.OwnRow (fun b => w.heap.size ≤ b) wr 9 1 v ks.length (ks.map Value.string)
 bel : Below w.heap.size w wr
theorem WRun.next {ks : List ByteArray} {w wr w2 : World} {v v' : Value} {x : ByteArray} {o : Obj} (h : WRun ks w wr v) (hown : w2.ownsRow 0 9 1 v' (ks.length + 1) (ks.map Value.string ++ [.string x])) (hg : (wr.alloc o).grownBy w2 v.ownBlock) (hv : v'.ownBlock = v.ownBlock ∨ v'.ownBlock = some (wr.alloc o).heap.size) : WRun (ks ++ [x]) w w2 v' := by
 have hz := h.bel.size
 refine ⟨?_, (h.bel.alloc hz o).grown hg (by simp; omega) fun g hgb => (h.row.block g hgb).1⟩
 rw [List.map_append, List.length_append]
 refine G.OwnRow.of_owns hown fun g hgb => ?_
 rcases hv with e1 | e1
 ·rw [e1] at hgb; exact (h.row.block g hgb).1
 rw [e1] at hgb; cases hgb; simp; omega
def full (p : ByteArray) : Bool := !p.data.toList.isEmpty
theorem words_full {l : List UInt8} {ps : List ByteArray} (h : ps.map (fun x : ByteArray => x.data.toList) = G.pieces 32 l) : ps.filter full = wordsL l := by
 unfold wordsL
 rw [← h, List.filter_map, List.map_map]
 have : ((fun p : List UInt8 => (⟨p.toArray⟩ : ByteArray)) ∘ fun x : ByteArray => x.data.toList) = id := by
  funext x; rfl
 rw [this, List.map_id]; rfl
def WordsPost (l : List UInt8) (w : World) (e : Ending) (w' : World) : Prop := ∃ v, e = .returned v ∧ WdsIn w' v (wordsL l) ∧ Below w.heap.size w w'
theorem filter_take {ps : List ByteArray} {k : Nat} {x : ByteArray} (hx : ps[k]? = some x) : (ps.take (k + 1)).filter full = if full x = true then (ps.take k).filter full ++ [x] else (ps.take k).filter full := by
 rw [G.take_of_get hx, List.filter_append]
 by_cases h : full x = true
 ·rw [if_pos h, List.filter_cons_of_pos h]; rfl
 rw [if_neg h, List.filter_cons_of_neg h]; simp
theorem refWords (s : ByteArray) (hs : s.size ≤ 1000000) (w : World) : Calls Tryz.prog 7 #[.string s] w (WordsPost s.data.toList w) := by
 have HP := J (fun W => refPieces 32 s hs W)
 have HS := J hs
 obtain ⟨i0', hi, hz0, hz1, hz2⟩ := info_split info_text
 clear hs
 go_enter Tryz.func7, Tryz.ntmps7
 go_wp2_with fail
 refine (HP.u _).mono ?_
 rintro e w2 ⟨v, ps, rfl, hps, hrow, hb⟩
 have HWd := J (words_full hps)
 have hmany : ps.length ≤ 1000001 := by
  have := congrArg List.length hps
  rw [List.length_map, G.pieces_many] at this
  have h2 := List.count_le_length (a := (32 : UInt8)) (l := s.data.toList)
  rw [← G.ba_size] at h2
  have := HS.u; omega
 have HMy := J hmany
 have hm2 : (ps.length : Int) ≤ 1000001 := by omega
 obtain ⟨A, cap, rfl, hcap, hA⟩ := wds_row hrow
 have HA := J hA; have HB := J hb
 clear hps hrow hb hA HP hmany
 go_wp2_with fail
 go_loopw [3, 5] (fun o i wr => ∃ k : Nat, k ≤ ps.length ∧ i = .int .i64 k ∧ Hid (WRun ((ps.take k).filter full) w2 wr o)) (fun _ i _ => ps.length - (intOf i).toNat)
 case atStart => exact ⟨0, by omega, rfl, J ⟨G.OwnRow.nil _ _ _ _, Below.refl _ _⟩⟩
 obtain ⟨k, hk, rfl, HR⟩ := hrel
 obtain ⟨A2, cap2, rfl, _, _, _⟩ := HR.u.row.slice
 by_cases hlt : k < ps.length
 ·obtain ⟨b, off, rfl, hW⟩ := HA.u (by omega)
  obtain ⟨x, hx⟩ := G.get_some ps hlt
  have c0 : wr.cell? ⟨b, off + k, none⟩ = some (.string x) := (hW.below HR.u.bel).cell k x hx
  have HN0 := J (filter_take hx)
  have k0 : (0 : Int) ≤ (k : Int) := by omega
  have k1 : (k : Int) < (ps.length : Int) := by omega
  have HLt := J hlt
  clear hW hx
  by_cases hf : x.data.toList = []
  ·have e0 : (x.toList == []) = true := by rw [ByteArray.toList_eq, hf]; rfl
   have e1 : (x.toList != []) = false := by rw [ByteArray.toList_eq, hf]; rfl
   have HN := J (show WRun ((ps.take (k + 1)).filter full) w2 wr _ by rw [HN0.u, if_neg (by unfold full; rw [hf]; simp)]; exact HR.u)
   clear hf
   go_wp2_with fail
   go_roundw
   case rel => exact ⟨k + 1, by have := HLt.u; omega, by go_num, HN⟩
   case measure => have := HLt.u; simp [intOf]; omega
  have e0 : (x.toList == []) = false := by rw [ByteArray.toList_eq]; simpa using hf
  have e1 : (x.toList != []) = true := by rw [ByteArray.toList_eq]; simpa using hf
  have hfl : ((ps.take k).filter full).length ≤ 1000001 := by
   have h1 := List.length_filter_le full (ps.take k)
   rw [List.length_take] at h1
   have := HMy.u; omega
  have hm3 := J (show ((ps.take k).filter full).length + 1 ≤ maxLen by simp only [maxLen]; omega)
  have hm4 := J (show (((ps.take k).filter full).length + 1) * 16 ≤ 140737488355328 by omega)
  have HFx := J (show full x = true by unfold full; cases h : x.data.toList; exact absurd h hf; rfl)
  clear hf hfl
  generalize (ps.take k).filter full = ks at HR HN0 hm3 hm4 ⊢
  go_wp2_with (at_builtin; refine wpList_append_lies _ (by rfl) (.tmp 19) (.tmp 24) 23 (by rfl) 0 9 i0' (.string ByteArray.empty) 1 16 Tryz.underlying23 hi hz0 hz1 hz2 rfl (by decide) (.slice A2 ks.length cap2) _ _ rfl (HR.u.row.alloc _).owns ⟨wr.heap.size, 0, none⟩ 1 1 [.string x] rfl rfl (G.new_cells wr _ _) (by simp [Value.oneCell']) (by decide) hm3.u hm4.u (Nat.zero_le _) _ rfl ?_)
  intro b2 cap3 w3 hown hg ho hlt2
  have HN := J (show WRun ((ps.take (k + 1)).filter full) w2 w3 _ by
   rw [HN0.u, if_pos HFx.u]
   exact HR.u.next hown hg (by
    rcases ho with e | e
    ·left; exact e.symm
    right; show some b2 = _; rw [e] <;> simp))
  clear hown hg ho hlt2 c0
  go_wp2_with fail
  go_roundw
  case rel => exact ⟨k + 1, by have := HLt.u; omega, by go_num, HN⟩
  case measure => have := HLt.u; simp [intOf]; omega
 have hke : k = ps.length := by omega
 subst hke
 have hr := HR.u
 rw [List.take_length, HWd.u] at hr
 have HF := J (show WordsPost s.data.toList w (.returned (.slice A2 _ cap2)) wr from ⟨_, rfl, wds_row hr.row, HB.u.trans (hr.bel.mono HB.u.size)⟩)
 rw [List.take_length, HWd.u]
 clear hr HR
 go_wp2_with fail
 go_ret
 exact HF.u
open Go.RowKit
def nlN (t : ByteArray) : Nat := t.data.toList.count 10
theorem nlN_append (a b : ByteArray) : nlN (a ++ b) = nlN a + nlN b := by unfold nlN; simp
theorem ba_nil (a : ByteArray) : a ++ (⟨#[]⟩ : ByteArray) = a := by apply ByteArray.ext; simp
theorem nil_ba (a : ByteArray) : (⟨#[]⟩ : ByteArray) ++ a = a := by apply ByteArray.ext; simp
theorem ba_toList (a b : ByteArray) : (a ++ b).data.toList = a.data.toList ++ b.data.toList := by simp
theorem fold_grows (ls : List (List UInt8)) : ∀ x : Dk × ByteArray, ∃ r : ByteArray, (ls.foldl stepD x).2 = x.2 ++ r ∧ (ls.filter fun l => said (wordsL l)).length ≤ nlN r ∧ (r.data.toList = [] ∨ r.data.toList.getLast? = some 10) := by
 induction ls with
 | nil => intro x; exact ⟨⟨#[]⟩, (ba_nil _).symm, Nat.zero_le _, .inl rfl⟩
 | cons l ls ih =>
  intro x
  obtain ⟨r, e, h1, h2⟩ := ih (stepD x l)
  rw [List.foldl_cons, e]
  by_cases c : said (wordsL l) = true
  ·have e2 : (stepD x l).2 = x.2 ++ ((doA x.1 (G.pieceAt (wordsL l) 0) ((wordsL l).drop 1)).1.say ++ ⟨#[10]⟩) := by unfold stepD; rw [if_pos c]
   rw [e2]
   generalize (doA x.1 (G.pieceAt (wordsL l) 0) ((wordsL l).drop 1)).1.say = o
   refine ⟨(o ++ ⟨#[10]⟩) ++ r, by rw [ByteArray.append_assoc], ?_, .inr ?_⟩
   ·rw [List.filter_cons_of_pos (p := fun l => said (wordsL l)) c, List.length_cons, nlN_append, nlN_append]
    have : nlN ⟨#[10]⟩ = 1 := by decide
    omega
   rcases h2 with h2 | h2
   ·rw [ba_toList, ba_toList, h2, List.append_nil, List.getLast?_append]; rfl
   rw [ba_toList, List.getLast?_append, h2]; rfl
  have e2 : stepD x l = x := by unfold stepD; rw [if_neg c]
  rw [e2]
  exact ⟨r, rfl, by rw [List.filter_cons_of_neg (p := fun l => said (wordsL l)) c]; exact h1, h2⟩
theorem run_counts (t : ByteArray) (h1 : t.size ≤ 65536) (h2 : (linesB t).length ≤ 200) : ((linesB t).filter fun l => said (wordsL l)).length ≤ nlN (runB t) ∧ ((runB t).data.toList = [] ∨ (runB t).data.toList.getLast? = some 10) := by
 obtain ⟨r, e, h3, h4⟩ := fold_grows (linesB t) dkNew
 have e1 : runB t = r := by
  unfold runB; rw [if_neg (by omega), e]
  exact nil_ba r
 rw [e1]; exact ⟨h3, h4⟩
end Go.Proofs.YtoidcbpcnikejaaGreatDoor
