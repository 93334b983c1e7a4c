/- Structs and slices that are built: the kit's laws, with little for the kernel to reckon (for texts without the loop). -/
import Derived.Test.YthelnkoohbnjpaaDoorFrame
import Derived.Great.BuildSlice
set_option linter.unusedVariables false
set_option linter.unusedSimpArgs false
namespace Go.Proofs.YthelnkoohbnjpaaDoor
open Go.RowKit
set_option linter.unusedVariables false
theorem build_law {P : Program} {ops : Array Oper} {rest : List Oper} {o : Oper} {a : Act} {w : World} {Q : Exit → Act → World → Prop} (hg : o.guard = none) (t : TypeId) (parts : Array (Nat × Operand)) (ho : o.op = .build t parts) (l : List (Nat × Value)) (hp : parts.toList.map (fun y => (y.1, a.eval y.2)) = l)
    (cells : Array Value) (h : P.built t l = some cells) (k : wpList P ops Q rest (a.put o.dst (.agg cells)) w) : wpList P ops Q (o :: rest) a w :=
  wpList_plain hg fun _ hK => by
    subst hp
    rw [← Array.toList_map] at h
    unfold Oper.wp execOp
    simp only [ho, Sem.run_bind, Sem.run_pure, run_build w t _ cells h, Result.andThen_ok]
    exact hK _ _ k
theorem bslice_law {P : Program} {ops : Array Oper} {rest : List Oper} {o : Oper} {a : Act} {w : World} {Q : Exit → Act → World → Prop} (hg : o.guard = none) (t e : TypeId) (len : Nat) (parts : Array (Nat × Operand)) (ho : o.op = .buildSlice t len parts) (l : List (Nat × Value)) (hp : parts.toList.map (fun y => (y.1, a.eval y.2)) = l)
    (cells : Array Value) (ie : TypeInfo) (z : Value) (hu : P.underlying t = some (.slice e)) (hie : P.info? e = some ie) (hz : ie.zero = some z) (hsmall : ¬ len * ie.size > 2 ^ 24) (hpos : ¬ len * ie.size = 0)
    (hf : Instr.fill (fun i => some (i * ie.size, ie.size)) ((Array.range (len * ie.size)).map (z.cells[· % z.cells.size]!)) l = some cells)
    (k : wpList P ops Q rest (a.put o.dst (.slice (some ⟨w.heap.size, 0, none⟩) len len)) (w.alloc (.cells cells e))) : wpList P ops Q (o :: rest) a w := by
  subst hp
  rw [← Array.toList_map] at hf
  exact wpList_buildSlice hg t e len parts ho cells ie z hu hie hz hsmall hpos hf k
theorem info_two {i : Option TypeInfo} {z : Option Value} {s : Nat} (h : i.map (fun i => (i.zero, i.size)) = some (z, s)) : ∃ j, i = some j ∧ j.zero = z ∧ j.size = s := by
  cases i with
  | none => cases h
  | some j => simp only [Option.map_some, Option.some.injEq, Prod.mk.injEq] at h; exact ⟨j, rfl, h.1, h.2⟩
end Go.Proofs.YthelnkoohbnjpaaDoor
