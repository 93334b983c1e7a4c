/- The reference's planLine: the plan in its block, what is behind a line. -/
import Derived.Test.YthelnkoohbnjpaaDoorPrdX
import Derived.Test.YthelnkoohbnjpaaDoorPrdH
import Derived.Test.YthelnkoohbnjpaaDoorRplC
import Derived.Test.YthelnkoohbnjpaaDoorBldP
import Derived.Laws.Rows
import Derived.Deep.MidRow
import Derived.Deep.RegionHeld3
import Derived.RegionTactic
set_option linter.unusedVariables false
set_option linter.unusedSimpArgs false
namespace Go.Proofs.YthelnkoohbnjpaaDoor
open Go.RowKit
set_option linter.unusedVariables false
/-- the reference's plan in block gp; its triggers lie in blocks that are new to w0 -/
structure RlS (w0 W : World) (gp : Nat) (v : Value) (p : Pln) : Prop where
  plan : Tide.At W gp 42 (plnC p v)
  own : Tide.OwnRow (fun b => w0.heap.size ≤ b ∧ b ≠ gp) W 82 17 v p.trigs.length (p.trigs.flatMap Trg.enc)
  below : Below w0.heap.size w0 W
  og : w0.heap.size ≤ gp
theorem RlS.next {w0 W W' : World} {gp : Nat} {v : Value} {p : Pln} (h : RlS w0 W gp v p) (hb : Below W.heap.size W W') : RlS w0 W' gp v p :=
  ⟨h.plan.below hb h.plan.inside, h.own.below hb (Nat.le_refl _), h.below.trans (hb.mono h.below.size), h.og⟩
/-- behind a line of the reference's -/
def RlPost (w0 : World) (gp i : Nat) (p : Pln) (ws : List ByteArray) (e : Ending) (w' : World) : Prop :=
  ∃ b, e = .returned (.bool b) ∧ (b = true → ∃ p' v', lineN i p ws = some p' ∧ RlS w0 w' gp v' p') ∧ (b = false → lineN i p ws = none ∧ Below w0.heap.size w0 w')
theorem rl_no {w0 w' : World} {gp i : Nat} {p : Pln} {ws : List ByteArray} (h : lineN i p ws = none) (hb : Below w0.heap.size w0 w') : RlPost w0 gp i p ws (.returned (.bool false)) w' :=
  ⟨false, rfl, (fun q => by cases q), fun _ => ⟨h, hb⟩⟩
theorem rl_yes {w0 w' : World} {gp i : Nat} {p p' : Pln} {v' : Value} {ws : List ByteArray} (h : lineN i p ws = some p') (hr : RlS w0 w' gp v' p') : RlPost w0 gp i p ws (.returned (.bool true)) w' :=
  ⟨true, rfl, fun _ => ⟨p', v', h, hr⟩, fun q => by cases q⟩
theorem rl_set {w : World} {g : Nat} {t : TypeId} {old : Array Value} (h : Tide.At w g t old) (cs : Array Value) : Tide.At (w.setRow g cs) g t cs := setRow_heap w g old cs t (0, 0) h
theorem rl_row {B : Nat} {a w : World} (h : Below B a w) {g : Nat} (hg : B ≤ g) (cs : Array Value) : Below B a (w.setRow g cs) :=
  ⟨h.os, h.tape, h.output, by rw [setRow_size]; exact h.size, fun k hk => (setRow_other w g k cs (by omega)).trans (h.block k hk)⟩
/-- only the plan's own cells have turned -/
theorem RlS.put {w0 W W' : World} {gp : Nat} {v : Value} {p p' : Pln} (h : RlS w0 W gp v p) (hc : Tide.Chg (fun b => b = gp) W W') (ha : Tide.At W' gp 42 (plnC p' v)) (ht : p'.trigs = p.trigs) : RlS w0 W' gp v p' :=
  ⟨ha, by rw [ht]; exact h.own.chg hc (fun g hg e => hg.2 e), h.below.trans (hc.below h.below.size (fun k hk e => by have e2 : k = gp := e; have := h.og; omega)), h.og⟩
/-- the numbers of words in memory -/
theorem nums_form {w w' : World} {ws : List ByteArray} {v : Value} {n : Nat} (hn : 0 < n) (hl : ws.length = n) (h : Tide.OwnRow (fun b => w.heap.size ≤ b) w' 3 1 v n (numsV ws)) :
    ∃ g cap, v = .slice (some ⟨g, 0, none⟩) n cap ∧ w.heap.size ≤ g ∧ g < w'.heap.size ∧ ∀ i, i < n → w'.cell? ⟨g, i, none⟩ = some (.int .i64 (wV (Tide.pieceAt ws i))) := by
  obtain ⟨g, cap, e, hS, _, _, hr⟩ := h.form hn
  refine ⟨g, cap, e, hS, hr.inside, fun i hi => hr.cell ?_⟩
  obtain ⟨x, hx⟩ := Tide.get_some ws (show i < ws.length by omega)
  unfold numsV
  rw [List.getElem?_map, hx, Tide.pieceAt_get hx]
  rfl
section
variable {P : Program} {ops : Array Oper} {o : Oper} {a : Act} {w : World} {K : Act → World → Prop} {Q : Exit → Act → World → Prop} {E : Prop}
theorem rl_load_row (hgd : o.guard = none) (ty t : TypeId) (x : Operand) (ho : o.op = .load ty x) (g : Nat) (hx : a.eval x = .pointer (some ⟨g, 0, none⟩)) (cs : Array Value) (hg : w.heap[g]? = some (.cells cs t (0, 0))) (d : TypeDesc) (hu : P.underlying ty = some d) (hd : (match d with | .struct _ | .array _ _ => true | _ => false) = true) (hi : (P.info? ty).map (·.size) = some cs.size)
    (h : K (a.put o.dst (.agg cs)) w) : if Region.wanted o (yielded ops a.tmps) = true then Oper.wp P o a w K Q else E := by
  have hw : Region.wanted o (yielded ops a.tmps) = true := by simp [Region.wanted, hgd]
  rw [if_pos hw]
  unfold Oper.wp execOp
  simp only [ho, hx, Instr.loadAt, Instr.sureAddr, Sem.run_bind, Sem.run_pure, Result.andThen_ok, run_loadVar_row w g t ty cs (0, 0) d hg hu hd hi]
  exact h
theorem rl_bslice (hgd : o.guard = none) (t e : TypeId) (len : Nat) (parts : Array (Nat × Operand)) (ho : o.op = .buildSlice t len parts) (l : List (Nat × Value)) (hp : parts.toList.map (fun y => (y.1, a.eval y.2)) = l) (cells : Array Value) (ie : TypeInfo) (z : Value)
    (hu : P.underlying t = some (.slice e)) (hie : P.info? e = some ie) (hz : ie.zero = some z) (hsmall : ¬ len * ie.size > 2 ^ 24) (hpos : ¬ len * ie.size = 0)
    (hf : Instr.fill (fun i => some (i * ie.size, ie.size)) ((Array.range (len * ie.size)).map (z.cells[· % z.cells.size]!)) l = some cells)
    (h : K (a.put o.dst (.slice (some ⟨w.heap.size, 0, none⟩) len len)) (w.alloc (.cells cells e))) : if Region.wanted o (yielded ops a.tmps) = true then Oper.wp P o a w K Q else E := by
  have hw : Region.wanted o (yielded ops a.tmps) = true := by simp [Region.wanted, hgd]
  rw [if_pos hw]
  subst hp
  rw [← Array.toList_map] at hf
  exact wp_buildSlice t e len parts ho cells ie z hu hie hz hsmall hpos hf h
theorem rl_store_row (hgd : o.guard = none) (ty : TypeId) (x y : Operand) (ho : o.op = .store ty x y) (g : Nat) (cells : Array Value) (hx : a.eval x = .pointer (some ⟨g, 0, none⟩)) (hy : a.eval y = .agg cells)
    (t : TypeId) (old : Array Value) (hg : w.heap[g]? = some (.cells old t (0, 0))) (hi : (P.info? ty).map (·.size) = some cells.size) (hold : old.size = cells.size) (h1 : cells.all (·.oneCell') = true)
    (h : K (a.put o.dst undef) (w.setRow g cells)) : if Region.wanted o (yielded ops a.tmps) = true then Oper.wp P o a w K Q else E := by
  have hw : Region.wanted o (yielded ops a.tmps) = true := by simp [Region.wanted, hgd]
  rw [if_pos hw]
  exact wp_store_row ty x y ho g cells hx hy t old hg hi hold h1 h
theorem rl_store_mid (hgd : o.guard = none) (ty : TypeId) (x y : Operand) (ho : o.op = .store ty x y) (g off : Nat) (cells : Array Value) (hx : a.eval x = .pointer (some ⟨g, off, none⟩)) (hy : a.eval y = .agg cells)
    (ht : w.there g off cells.size) (hi : (P.info? ty).map (·.size) = some cells.size) (h1 : cells.all (·.oneCell') = true)
    (h : K (a.put o.dst undef) (w.setCells g off cells.toList)) : if Region.wanted o (yielded ops a.tmps) = true then Oper.wp P o a w K Q else E := by
  have hw : Region.wanted o (yielded ops a.tmps) = true := by simp [Region.wanted, hgd]
  rw [if_pos hw]
  exact wp_store_mid ty x y ho g off cells hx hy ht hi h1 h
end
theorem rl_exec_built {P : Program} {ev : Operand → Value} {o : Oper} {t : TypeId} {parts : Array (Nat × Operand)} {l : List (Nat × Value)} {cells : Array Value} {W : World} (ho : o.op = .build t parts) (hp : parts.toList.map (fun y => (y.1, ev y.2)) = l) (h : P.built t l = some cells) : (execOp ev o).run P W = .ok (.value (.agg cells)) W := by
  subst hp
  rw [← Array.toList_map] at h
  unfold execOp
  simp only [ho, Sem.run_bind, Sem.run_pure, Result.andThen_ok, run_build W t _ cells h]
theorem rl_load_guard {P : Program} {ops : Array Oper} {rest : List Oper} {o : Oper} {a : Act} {w : World} {Q : Exit → Act → World → Prop} (hgd : Region.wanted o (yielded ops a.tmps) = true) (ty : TypeId) (x : Operand) (ho : o.op = .load ty x)
    (g : Nat) (hx : a.eval x = .pointer (some ⟨g, 0, none⟩)) (t : TypeId) (cs : Array Value) (fr : Nat × Nat) (d : TypeDesc) (hg : w.heap[g]? = some (.cells cs t fr))
    (hu : P.underlying ty = some d) (hd : (match d with | .struct _ | .array _ _ => true | _ => false) = true) (hi : (P.info? ty).map (·.size) = some cs.size)
    (h : wpList P ops Q rest (a.put o.dst (.agg cs)) w) : wpList P ops Q (o :: rest) a w := by
  unfold wpList
  rw [if_pos hgd]
  exact .inl (wp_load_row ty x ho g hx t cs fr d hg hu hd hi h)
theorem rl_there {g : Nat} {T : TypeId} {cs : Array Value} {w : World} {o n : Nat} (h : Tide.At w g T cs) (hn : o + n ≤ cs.size) : w.there g o n := fun j hj => by
  refine ⟨?_, h.soft _⟩
  have : cs[o + j]? = some (cs[o + j]'(by omega)) := Array.getElem?_eq_getElem (by omega)
  rw [h.here this]; rfl
end Go.Proofs.YthelnkoohbnjpaaDoor
