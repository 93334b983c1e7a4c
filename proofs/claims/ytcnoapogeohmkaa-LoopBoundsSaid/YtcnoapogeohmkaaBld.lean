/- Structs and slices that are built: the kit's laws, with little for the kernel to reckon. -/
import Derived.Test.YtcnoapogeohmkaaLopJ
import Derived.Test.YtcnoapogeohmkaaPlnM
import Derived.Great.BuildSlice
set_option linter.unusedVariables false
set_option linter.unusedSimpArgs false
namespace Go.Proofs.Ytcnoapogeohmkaa
open Go.RowKit
set_option linter.unusedVariables false
theorem wpList_build2 {P : Program} {ops : Array Oper} {rest : List Oper} {o : Oper} {a : Act} {w : World} {Q : Exit → Act → World → Prop} (hg : o.guard = none) (t : TypeId) (parts : Array (Nat × Operand)) (ho : o.op = .build t parts) (l : List (Nat × Value)) (hp : parts.toList.map (fun y => (y.1, a.eval y.2)) = l)
    (cells : Array Value) (h : P.built t l = some cells) (k : wpList P ops Q rest (a.put o.dst (.agg cells)) w) : wpList P ops Q (o :: rest) a w :=
  wpList_plain hg fun _ hK => by
    subst hp
    rw [← Array.toList_map] at h
    unfold Oper.wp execOp
    simp only [ho, Sem.run_bind, Sem.run_pure, run_build w t _ cells h, Result.andThen_ok]
    exact hK _ _ k
theorem wpList_bslice2 {P : Program} {ops : Array Oper} {rest : List Oper} {o : Oper} {a : Act} {w : World} {Q : Exit → Act → World → Prop} (hg : o.guard = none) (t e : TypeId) (len : Nat) (parts : Array (Nat × Operand)) (ho : o.op = .buildSlice t len parts) (l : List (Nat × Value)) (hp : parts.toList.map (fun y => (y.1, a.eval y.2)) = l)
    (cells : Array Value) (ie : TypeInfo) (z : Value) (hu : P.underlying t = some (.slice e)) (hie : P.info? e = some ie) (hz : ie.zero = some z) (hsmall : ¬ len * ie.size > 2 ^ 24) (hpos : ¬ len * ie.size = 0)
    (hf : Instr.fill (fun i => some (i * ie.size, ie.size)) ((Array.range (len * ie.size)).map (z.cells[· % z.cells.size]!)) l = some cells)
    (k : wpList P ops Q rest (a.put o.dst (.slice (some ⟨w.heap.size, 0, none⟩) len len)) (w.alloc (.cells cells e))) : wpList P ops Q (o :: rest) a w := by
  subst hp
  rw [← Array.toList_map] at hf
  exact wpList_buildSlice hg t e len parts ho cells ie z hu hie hz hsmall hpos hf k
theorem _root_.Tide.At.row_set {w : World} {g : Nat} {t : TypeId} {old : Array Value} (h : Tide.At w g t old) (cs : Array Value) : Tide.At (w.setRow g cs) g t cs := setRow_heap w g old cs t (0, 0) h
theorem _root_.Tide.At.row_other {w : World} {g k : Nat} {t : TypeId} {cs : Array Value} (h : Tide.At w g t cs) (hk : g ≠ k) (cs' : Array Value) : Tide.At (w.setRow k cs') g t cs := (setRow_other w k g cs' hk).trans h
theorem _root_.Go.RowKit.Below.setRow {B : Nat} {a w : World} (h : Below B a w) {g : Nat} (hg : B ≤ g) (cs : Array Value) : Below B a (w.setRow g cs) :=
  ⟨h.os, h.tape, h.output, by rw [setRow_size]; exact h.size, fun k hk => (setRow_other w g k cs (by omega)).trans (h.block k hk)⟩
/-- a depth of ten a pod -/
def plainT : Trg := ⟨2, 10, 0, ⟨0, 0, 0, 0, 0, false, false⟩, ⟨0, 0, 0, 0, 0, false, false⟩⟩
def plainP : Pln := ⟨⟨#[112]⟩, 0, 9, 2, 6, 0, 0, 0, 0, ⟨0, 0, 0, 0⟩, ⟨0, 0, 0, 0⟩, [plainT]⟩
theorem plain_trg : (Try.prog.info? 65).map (fun i => (i.zero, i.size)) = some (some (.agg #[.int .i64 0, .int .i64 0, .int .i64 0, .int .u64 0, .int .u64 0, .int .u64 0, .int .u64 0, .int .u64 0, .bool false, .bool false, .int .u64 0, .int .u64 0, .int .u64 0, .int .u64 0, .int .u64 0, .bool false, .bool false]), 17) := by kernel_rfl
theorem info2 {i : Option TypeInfo} {z : Option Value} {s : Nat} (h : i.map (fun i => (i.zero, i.size)) = some (z, s)) : ∃ j, i = some j ∧ j.zero = z ∧ j.size = s := by
  cases i with
  | none => cases h
  | some j => simp only [Option.map_some, Option.some.injEq, Prod.mk.injEq] at h; exact ⟨j, rfl, h.1, h.2⟩
def TC10 : Array Value := #[.int .i64 2, .int .i64 10, .int .i64 0, .int .u64 0, .int .u64 0, .int .u64 0, .int .u64 0, .int .u64 0, .bool false, .bool false, .int .u64 0, .int .u64 0, .int .u64 0, .int .u64 0, .int .u64 0, .bool false, .bool false]
theorem plain_built : Try.prog.built 65 [(0, .int .i64 2), (1, .int .i64 10)] = some TC10 := by kernel_rfl
theorem plain_fill : Instr.fill (fun i => some (i * 17, 17)) ((Array.range (1 * 17)).map ((Value.agg #[.int .i64 0, .int .i64 0, .int .i64 0, .int .u64 0, .int .u64 0, .int .u64 0, .int .u64 0, .int .u64 0, .bool false, .bool false, .int .u64 0, .int .u64 0, .int .u64 0, .int .u64 0, .int .u64 0, .bool false, .bool false]).cells[· % (Value.agg #[.int .i64 0, .int .i64 0, .int .i64 0, .int .u64 0, .int .u64 0, .int .u64 0, .int .u64 0, .int .u64 0, .bool false, .bool false, .int .u64 0, .int .u64 0, .int .u64 0, .int .u64 0, .int .u64 0, .bool false, .bool false]).cells.size]!)) [(0, .agg TC10)] = some TC10 := by kernel_rfl
theorem plain_plan (b : Nat) : Try.prog.built 26 [(0, .string ⟨#[112]⟩), (2, .int .i64 9), (3, .int .i64 2), (4, .int .i64 6), (11, .slice (some ⟨b, 0, none⟩) 1 1)] = some (plnC plainP (.slice (some ⟨b, 0, none⟩) 1 1)) := by kernel_rfl
end Go.Proofs.Ytcnoapogeohmkaa
