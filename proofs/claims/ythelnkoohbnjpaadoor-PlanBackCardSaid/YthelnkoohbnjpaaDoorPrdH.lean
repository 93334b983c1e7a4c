/- A plan's first four lines: what each adds. -/
import Derived.Test.YthelnkoohbnjpaaDoorPrdS
set_option linter.unusedVariables false
set_option linter.unusedSimpArgs false
namespace Go.Proofs.YthelnkoohbnjpaaDoor
open Go.RowKit
set_option linter.unusedVariables false
theorem piece_drop (ws : List ByteArray) (k i : Nat) : Tide.pieceAt (ws.drop k) i = Tide.pieceAt ws (k + i) := by
  unfold Tide.pieceAt
  rw [List.getD_eq_getElem?_getD, List.getD_eq_getElem?_getD, List.getElem?_drop]
theorem head_row0 {p : Pln} {ws : List ByteArray} {v : Value} (h : headOk ws = true) : ∃ p', lineN 0 p ws = some p' ∧ p'.trigs = p.trigs ∧ (setK (plnC p v) [1, 2, 3, 4] (ws.drop 2) 4).setIfInBounds 0 (.string (Tide.pieceAt ws 1)) = plnC p' v := by
  refine ⟨_, if_pos h, rfl, ?_⟩
  simp only [setK, piece_drop]
  rfl
theorem head_row1 {p : Pln} {ws : List ByteArray} {v : Value} (h : rowOk wdRest ws = true) : ∃ p', lineN 1 p ws = some p' ∧ p'.trigs = p.trigs ∧ setK (plnC p v) [5, 6, 7, 8] (ws.drop 1) 4 = plnC p' v := by
  refine ⟨_, if_pos h, rfl, ?_⟩
  simp only [setK, piece_drop]
  rfl
theorem head_row2 {p : Pln} {ws : List ByteArray} {v : Value} (h : rowOk wdUp ws = true) : ∃ p', lineN 2 p ws = some p' ∧ p'.trigs = p.trigs ∧ setK (plnC p v) [9, 10, 11, 12] (ws.drop 1) 4 = plnC p' v := by
  refine ⟨_, if_pos h, rfl, ?_⟩
  simp only [setK, piece_drop]
  rfl
theorem head_row3 {p : Pln} {ws : List ByteArray} {v : Value} (h : rowOk wdDown ws = true) : ∃ p', lineN 3 p ws = some p' ∧ p'.trigs = p.trigs ∧ setK (plnC p v) [13, 14, 15, 16] (ws.drop 1) 4 = plnC p' v := by
  refine ⟨_, if_pos h, rfl, ?_⟩
  simp only [setK, piece_drop]
  rfl
/-- which row stands in line i -/
def rowAt : Nat → ByteArray × List Nat
  | 1 => (wdRest, [5, 6, 7, 8])
  | 2 => (wdUp, [9, 10, 11, 12])
  | _ => (wdDown, [13, 14, 15, 16])
theorem row_good {i : Nat} (h0 : 1 ≤ i) (h1 : i ≤ 3) {p : Pln} {ws : List ByteArray} {v : Value} (h : rowOk (rowAt i).1 ws = true) : ∃ p', lineN i p ws = some p' ∧ p'.trigs = p.trigs ∧ setK (plnC p v) (rowAt i).2 (ws.drop 1) 4 = plnC p' v := by
  rcases (show i = 1 ∨ i = 2 ∨ i = 3 by omega) with rfl | rfl | rfl
  · exact head_row1 h
  · exact head_row2 h
  · exact head_row3 h
theorem row_ill {i : Nat} (h0 : 1 ≤ i) (h1 : i ≤ 3) {p : Pln} {ws : List ByteArray} (h : rowOk (rowAt i).1 ws = false) : lineN i p ws = none := by
  rcases (show i = 1 ∨ i = 2 ∨ i = 3 by omega) with rfl | rfl | rfl
  · exact if_neg (by show ¬ rowOk wdRest ws = true; rw [show rowOk wdRest ws = false from h]; simp)
  · exact if_neg (by show ¬ rowOk wdUp ws = true; rw [show rowOk wdUp ws = false from h]; simp)
  · exact if_neg (by show ¬ rowOk wdDown ws = true; rw [show rowOk wdDown ws = false from h]; simp)
theorem row_cells {i : Nat} (h0 : 1 ≤ i) (h1 : i ≤ 3) : (rowAt i).2.length = 4 ∧ ∀ o ∈ (rowAt i).2, o < 18 := by
  rcases (show i = 1 ∨ i = 2 ∨ i = 3 by omega) with rfl | rfl | rfl
  · exact ⟨rfl, by decide⟩
  · exact ⟨rfl, by decide⟩
  · exact ⟨rfl, by decide⟩
/-- in front of line i: R is the answer -/
structure HdS (w0 W : World) (R : Option Pln × Nat) (m : Int) (g gp : Nat) (v : Value) (i : Nat) (p : Pln) (rest : ByteArray) : Prop where
  reads : Reads i p rest R
  plan : Tide.At W gp 42 (plnC p v)
  rd : Tide.At W g 91 #[.string rest, .int .i64 (i : Int)]
  mx : W.cell? ⟨0, 0, none⟩ = some (.int .i64 m)
  chg : Tide.Chg (fun b => b = g ∨ b = gp) w0 W
  trigs : p.trigs = []
  size : rest.size ≤ 1000000
  few : i ≤ 1000
  ne : gp ≠ g ∧ 0 ≠ g ∧ 0 ≠ gp
  sz : rest.size ≤ 2048
/-- a line was wrong -/
def BadS (w0 W : World) (R : Option Pln × Nat) (g gp : Nat) : Prop := ∃ (k : Nat) (rest : ByteArray), R = (none, k) ∧ Tide.At W g 91 #[.string rest, .int .i64 (k : Int)] ∧ Tide.Chg (fun b => b = g ∨ b = gp) w0 W
section
variable {w0 W W' : World} {R : Option Pln × Nat} {m : Int} {g gp i : Nat} {v : Value} {p : Pln} {rest : ByteArray}
theorem HdS.below (h : HdS w0 W R m g gp v i p rest) (hb : Below W.heap.size W W') : HdS w0 W' R m g gp v i p rest :=
  ⟨h.reads, h.plan.below hb h.plan.inside, h.rd.below hb h.rd.inside, (hb.cell (p := ⟨0, 0, none⟩) (World.block_lt_of_cell? _ _ h.mx)).trans h.mx, h.chg.step_below hb h.chg.size, h.trigs, h.size, h.few, h.ne, h.sz⟩
theorem HdS.alloc (h : HdS w0 W R m g gp v i p rest) (o : Obj) : HdS w0 (W.alloc o) R m g gp v i p rest := h.below ((Below.refl _ _).alloc (Nat.le_refl _) o)
theorem HdS.drew (h : HdS w0 W R m g gp v i p rest) : HdS w0 W.drew R m g gp v i p rest := h.below (Below.refl _ _).drew
end
/-- behind one row -/
def StepPost (w0 : World) (R : Option Pln × Nat) (m : Int) (g gp : Nat) (v : Value) (i : Nat) (e : Ending) (W' : World) : Prop :=
  ∃ b, e = .returned (.bool b) ∧ (b = true → ∃ p rest, HdS w0 W' R m g gp v (i + 1) p rest) ∧ (b = false → BadS w0 W' R g gp)
theorem headRow (w0 W : World) (R : Option Pln × Nat) (m : Int) (g gp : Nat) (v : Value) (i : Nat) (p : Pln) (rest : ByteArray) (bt : Nat) (capt : Nat) (h0 : 1 ≤ i) (h1 : i ≤ 3) (h : HdS w0 W R m g gp v i p rest) (hp : Tide.At W bt 113 (ptrs gp (rowAt i).2)) (n2 : bt ≠ g) (n3 : bt ≠ gp) :
    Calls Tryd.prog 64 #[.pointer (some ⟨g, 0, none⟩), .string (rowAt i).1, .slice (some ⟨bt, 0, none⟩) 4 capt] W (StepPost w0 R m g gp v i) := by
  obtain ⟨hl, ho⟩ := row_cells h0 h1
  refine (readerRow (rowAt i).1 g rest (i : Int) m gp bt capt 42 (plnC p v) (rowAt i).2 W h.rd h.size (by omega) (by omega) h.mx h.ne.2.1 hp h.plan hl (fun o q => ho o q) h.ne.1 n2 n3).mono ?_
  rintro e W' ⟨he, hr, ⟨k, hk, hpl, hk4⟩, hc⟩
  refine ⟨_, he, fun hb => ?_, fun hb => ?_⟩
  · rw [Bool.and_eq_true] at hb
    obtain ⟨p', e1, e2, e3⟩ := row_good (p := p) (v := v) h0 h1 hb.2
    have hk' := hk4 (by rw [hb.1, hb.2]; rfl)
    subst hk'
    rw [e3] at hpl
    refine ⟨p', _, h.reads.next (.inl (by omega)) hb.1 e1, hpl, hr, ?_, h.chg.trans hc, e2.trans h.trigs, Nat.le_trans (Tide.cutY_size 10 rest) h.size, by omega, h.ne, Nat.le_trans (Tide.cutY_size 10 rest) h.sz⟩
    exact (chg_cell hc (World.block_lt_of_cell? _ _ h.mx) (fun hb => hb.elim h.ne.2.1 h.ne.2.2) 0).trans h.mx
  · refine ⟨i + 1, _, ?_, hr, h.chg.trans hc⟩
    cases hz : Tide.cutZ 10 rest
    · exact h.reads.cut (.inl (by omega)) hz
    · rw [hz, Bool.true_and] at hb
      exact h.reads.bad (.inl (by omega)) hz (row_ill h0 h1 hb)
end Go.Proofs.YthelnkoohbnjpaaDoor
