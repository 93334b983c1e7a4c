/- What the desk's rows list: the variables' cells, and a world that holds them. -/
import Derived.HandedShaped
import Derived.LaidHandle
import Derived.LaidLaws
import Derived.LaidMore
import Derived.Lay
import Derived.Lib.LaidTab
import Derived.Stop.LaidErr
import Derived.Deep.DeepHandedRow
import Derived.Test.YtoidcbpcnikejaaGreatDoorDq38
set_option linter.unusedVariables false
set_option linter.unusedSimpArgs false
set_option maxRecDepth 100000
set_option maxHeartbeats 12800000
namespace Go.Proofs.YtoidcbpcnikejaaGreatDoor
open Go Go.ChangeShapes Go.WideShapes Go.ChangeAt Go.RowKit
def dkPlain : List (String × DataW Unit) := [("math/bits.deBruijn32tab", Rows.laid_math_bits_deBruijn32tab), ("math/bits.deBruijn64tab", Rows.laid_math_bits_deBruijn64tab), ("internal/strconv.uint64pow10", Rows.laid_internal_strconv_uint64pow10), ("unicode/utf8.acceptRanges", Rows.laid_unicode_utf8_acceptRanges), ("unicode/utf8.first", Rows.laid_unicode_utf8_first)]
def dkHand : List (String × DataW Unit) := [("errors.errorType", Rows.laid_errors_errorType)]
theorem laid_parts {W : World} (h : laidMetH Tryz.prog Rows.deskCountsUptoRow.laid W) : laidMet Tryz.prog dkPlain W ∧ handlesMet Tryz.prog dkHand W := h
theorem pow_laid {W : World} (h : laidMet Tryz.prog dkPlain W) : PowTab W := by
 have h3 : laidMet Tryz.prog [("internal/strconv.uint64pow10", Lib.tabData .u64 Lib.pow10Tab), ("unicode/utf8.acceptRanges", Rows.laid_unicode_utf8_acceptRanges), ("unicode/utf8.first", Rows.laid_unicode_utf8_first)] W := laidMet.tail (laidMet.tail (show laidMet Tryz.prog (("math/bits.deBruijn32tab", Rows.laid_math_bits_deBruijn32tab) :: ("math/bits.deBruijn64tab", Rows.laid_math_bits_deBruijn64tab) :: [("internal/strconv.uint64pow10", Lib.tabData .u64 Lib.pow10Tab), ("unicode/utf8.acceptRanges", Rows.laid_unicode_utf8_acceptRanges), ("unicode/utf8.first", Rows.laid_unicode_utf8_first)]) W from h))
 exact Lib.tabIs_of_head (g := 4) (by kernel_rfl) (by kernel_rfl) Tryz.underlying244 Tryz.underlying90 (by kernel_rfl) (by kernel_rfl) h3
theorem rt_type : (Tryz.prog.cutTypes.find? (·.1 == "internal/reflectlite.rtype")).map (·.2) = some 113 := by kernel_rfl
theorem one_row : ((List.range Tryz.prog.types.size).filter fun t => Tryz.prog.rowNamed t [101, 114, 114, 111, 114]) = [39] := by kernel_rfl
theorem err_laid {W : World} (h : handlesMet Tryz.prog dkHand W) : W.cell? ⟨1, 0, none⟩ = some (.iface 113 (.agg #[.pointer (some ⟨7, 39, none⟩)])) := by
 obtain ⟨name, u, ty, e1, e2, e3, e4, e5⟩ := h _ (List.mem_singleton.2 rfl)
 have en : name = [101, 114, 114, 111, 114] := (Option.some.inj e1).symm
 subst en
 obtain rfl := Option.some.inj (rt_type.symm.trans e2)
 have hm : ty ∈ (List.range Tryz.prog.types.size).filter fun t => Tryz.prog.rowNamed t [101, 114, 114, 111, 114] := List.mem_filter.2 ⟨List.mem_range.2 e3, e4⟩
 rw [one_row] at hm
 obtain rfl := List.mem_singleton.1 hm
 have hh : typeHandle Tryz.prog 39 = .pointer (some ⟨7, 39, none⟩) := by kernel_rfl
 rw [hh] at e5
 have ge : Tryz.prog.globalNamed "errors.errorType" = some 1 := by kernel_rfl
 simpa using World.var?_cell ge e5 0
theorem env_laid {W : World} (hL : laidMetH Tryz.prog Rows.deskCountsUptoRow.laid W) (hsh : W.ShapedOpen Tryz.prog) : Env W where
 pow := pow_laid (laid_parts hL).1
 len := Go.Proofs.cell_of_shapedOpen_int (zero := #[.int .i64 0]) (t := 3) hsh (of_decide_eq_true (by kernel_rfl)) (by kernel_rfl) rfl (by kernel_rfl) (by kernel_rfl) Tryz.underlying3
 err := err_laid (laid_parts hL).2
 glob := by
  obtain ⟨o, o₀, h, _⟩ := hsh.2 7 (of_decide_eq_true (by kernel_rfl)) (of_decide_eq_true (by kernel_rfl))
  exact Nat.le_of_lt (Array.getElem?_eq_some_iff.1 h).1
noncomputable def dkWorld0 (os : Os) : World :=
 let w0 := World.holding Tryz.prog os ⟨#[], #[], []⟩
 { w0 with heap := w0.heap.modify 1 fun
   | .cells _ t frozen => .cells #[.iface 113 (.agg #[.pointer (some ⟨7, 39, none⟩)])] t frozen
   | o => o }
noncomputable def dkWorld (os : Os) : World := (dkWorld0 os).layVars Tryz.prog dkPlain
theorem dkWorld_os (os : Os) : (dkWorld os).os = os := World.layVars_os _ _ _
theorem dk_plain (os : Os) (args : Array Value) : laidMet Tryz.prog dkPlain ((dkWorld os).forCall (fun _ _ => 0) ⟨#[], args, []⟩).memory := by
 have e1 : (dkPlain.filter fun x => (dkPlain.map (·.1)).contains x.1) = dkPlain := List.filter_eq_self.2 fun x hx => List.contains_iff_mem.2 (List.mem_map.2 ⟨x, hx, rfl⟩)
 have e2 : (dkPlain.filter fun x => !(dkPlain.map (·.1)).contains x.1) = [] := List.filter_eq_nil_iff.2 fun x hx => by rw [List.contains_iff_mem.2 (List.mem_map.2 ⟨x, hx, rfl⟩)]; simp
 have hf : (dkWorld0 os).layFits Tryz.prog dkPlain [] = true := by kernel_rfl
 have hi : (dkWorld0 os).layIfaces Tryz.prog dkPlain (dkWorld os) = true := by kernel_rfl
 have h : laidMet Tryz.prog dkPlain (dkWorld os) := laidMet_layVars (w0 := dkWorld0 os) (dkPlain.map (·.1)) [] (by rw [e1]; rfl) (by rw [e1]; exact hf) (by rw [e1]; exact hi) (by rw [e2]; exact LaidIn.none)
 exact h.of_heap (by simp [World.memory, World.forCall, Input.heap])
theorem dk_met (os : Os) (args : Array Value) : laidMetH Tryz.prog Rows.deskCountsUptoRow.laid ((dkWorld os).forCall (fun _ _ => 0) ⟨#[], args, []⟩).memory := laidMetH_of_parts (dk_plain os args) (by kernel_rfl)
end Go.Proofs.YtoidcbpcnikejaaGreatDoor
