/- The contracts of cron.Next and cron.Last. -/
import Derived.Test.YtcnoapogeohmkaaCronX
set_option linter.unusedVariables false
set_option linter.unusedSimpArgs false
namespace Go.Proofs.Ytcnoapogeohmkaa
open Go.RowKit
set_option linter.unusedVariables false
def Cr.seekN (c : Cr) (sec shift side : Int) : Int := if c.ok = true ∧ okTime sec shift then (c.seekO sec shift side).getD 0 else 0
def Cr.seekB (c : Cr) (sec shift side : Int) : Bool := if c.ok = true ∧ okTime sec shift then (c.seekO sec shift side).isSome else false
theorem Cr.seekV_is (c : Cr) (sec shift side : Int) : c.seekV sec shift side = .tuple #[.int .i64 (c.seekN sec shift side), .bool (c.seekB sec shift side), .int .i64 (c.seekE sec shift)] := by
  unfold Cr.seekV Cr.seekN Cr.seekB Cr.seekE
  by_cases h : c.ok = true ∧ okTime sec shift
  · rw [if_pos h, if_pos h, if_pos h, if_pos h.1, if_pos h.2]
    cases c.seekO sec shift side <;> rfl
  · rw [if_neg h, if_neg h, if_neg h]
    by_cases h1 : c.ok = true
    · rw [if_pos h1, if_neg (fun h2 => h ⟨h1, h2⟩)]
    · rw [if_neg h1]
set_option maxRecDepth 100000 in
set_option maxHeartbeats 1600000 in
theorem cronLast (c : Cr) (hf : c.fits) (sec shift : Int) (w : World) :
    Calls Try.prog 73 #[.agg c.cells, .int .i64 sec, .int .i64 shift] w fun e w' => e = .returned (.tuple #[.int .i64 (c.seekN sec shift (-1)), .bool (c.seekB sec shift (-1)), .int .i64 (c.seekE sec shift)]) ∧ Below w.heap.size w w' := by
  obtain ⟨ci, ch, cd, cm, cw, ad, aw⟩ := c
  have HC := Lib.hid hf
  have HB := Lib.hid ((Below.refl w.heap.size w).alloc (Nat.le_refl _) (.cells (Cr.cells ⟨ci, ch, cd, cm, cw, ad, aw⟩) 61))
  clear hf
  unfold Cr.cells
  go_enter Try.func73, Try.ntmps73
  go_wp2_with fail
  refine (cronSeekDn ⟨ci, ch, cd, cm, cw, ad, aw⟩ HC.out sec shift _).mono ?_
  rintro e w1 ⟨rfl, hb⟩
  rw [Cr.seekV_is]
  have HF := Lib.hid (HB.out.trans (hb.mono HB.out.size))
  clear hb
  go_wp2_with fail
  go_ret3
  exact ⟨rfl, HF.out⟩
end Go.Proofs.Ytcnoapogeohmkaa
