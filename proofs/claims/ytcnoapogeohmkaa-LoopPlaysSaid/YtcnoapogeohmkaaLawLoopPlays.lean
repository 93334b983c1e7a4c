/- Proved: whatever is handed in, at most 60 glances, a loop does what the document says, glance by glance (the law LoopPlays answers true, and its arguments read as they did). No conditions beyond the given row's own. -/
import Derived.Test.YtcnoapogeohmkaaWatW
import Derived.Test.YtcnoapogeohmkaaZBase
set_option linter.unusedVariables false
set_option linter.unusedSimpArgs false
namespace Go.Proofs.Ytcnoapogeohmkaa
open Go.ChangeShapes Go.WideShapes Go.ChangeAt Go.RowKit
set_option linter.unusedVariables false
theorem loopPlays_row (pl : Pln) (A : Option Addr) (cap : Nat) {w : World} (hc1 : pl.trigs.length ≤ cap) (hc2 : cap ≤ maxLen) (hft : ∀ t ∈ pl.trigs, t.fits) (hnm : pl.name.size ≤ maxLen) (hli : Tide.ListIn w 17 Trg.enc (.slice A pl.trigs.length cap) pl.trigs)
    (A1 : Option Addr) (cap1 : Nat) (gl : List GlV) (hb : Tide.ListIn w 7 GlV.enc (.slice A1 gl.length cap1) gl) (hq : ∀ g ∈ gl, g.right w) (hbl : gl.length ≤ maxLen) (w' : World) (hw : w' = w) :
    Calls Try.prog 5 #[plnV pl (.slice A pl.trigs.length cap), .slice A1 gl.length cap1] w' fun e w1 => e = .returned (.bool true) ∧ Below w'.heap.size w' w1 := by
  subst hw
  have h9 : maxLen = 9223372036854775807 := rfl
  exact loopPlays_walk pl A cap w' hft (by omega) hli (by omega) A1 cap1 gl hb hq (by omega)
set_option maxHeartbeats 1000000 in
set_option maxRecDepth 100000 in
theorem loopPlays_lifted (os : Os) (started : os.Started) (H : Type) (enc : TypeId × Value → H) :
    ReturnsInHanded {} Try.checked os 5 .any (Rows.loopPlaysSpec.pre6 enc Try.prog Try.f5 Rows.loopPlaysRow.domain false) (Rows.loopPlaysSpec.post enc Try.prog Try.f5 false true false false) := by
  refine returnsInHanded_of_change (C := Try.checked) (show ownKnob Try.prog.godebug = none by kernel_rfl) started (by kernel_rfl) Try.func5
    (ChangeSpec.witness6 (enc := enc) (C := Try.checked) false ⟨#[], #[(.agg #[.string ⟨#[]⟩, .int .i64 0, .int .i64 0, .int .i64 0, .int .i64 0, .int .i64 0, .int .i64 0, .int .i64 0, .int .i64 0, .int .i64 0, .int .i64 0, .int .i64 0, .int .i64 0, .int .i64 0, .int .i64 0, .int .i64 0, .int .i64 0, .slice none 0 0]), .slice none 0 0], []⟩ 8 (by kernel_rfl) (by kernel_rfl) (by kernel_rfl) (by kernel_rfl)) ?_
  intro W base args ds gs before hval0 hW hcnd _
  have hval : ∀ (j : Nat) t v, Try.f5.params[j]? = some t → args[j]? = some v → Value.okWide Try.prog W .any base t v := hval0
  have hW' := hW
  obtain ⟨p, q, hA0, hV, rfl, hfz, hnd⟩ := hW
  have hA : DataW.TrodAll enc Try.prog W 0 (fun _ => true) true Try.f5.params.toList args.toList ds p := hA0
  rw [Try.params5] at hA hval
  obtain ⟨v0, vs0, d0, ds0, p0, q0, hargs, rfl, rfl, h0, r0⟩ := trodAll_cons hA
  obtain ⟨v1, vs1, d1, ds1, p1, q1, rfl, rfl, rfl, h1, r1⟩ := trodAll_cons r0
  obtain ⟨rfl, rfl, rfl⟩ := trodAll_nil r1
  obtain rfl : args = #[v0, v1] := by cases args; simp_all
  obtain ⟨rfl, rfl⟩ := trodVars_none hV
  simp only [List.append_nil] at hW'
  have hlaid : laidOutB Try.prog = true := by kernel_rfl
  obtain ⟨pl, A, cap, rfl, hc1, hc2, hft, hnm, hli⟩ := open_plan (hval 0 26 v0 rfl rfl) h0
  obtain ⟨gl, A1, cap1, rfl, hb1, hb2, hb3, hb⟩ := open_glances (hval 1 45 v1 rfl rfl) h1
  try simp only [List.append_nil, List.nil_append] at hW'
  try simp only [List.append_nil, List.nil_append] at hA0
  refine (loopPlays_row pl A cap hc1 hc2 hft hnm hli A1 cap1 gl hb hb3 (Nat.le_trans hb1 hb2) W rfl).mono fun e W' ⟨he, hg⟩ => ?_
  subst he
  exact ⟨_, rfl, Tide.law_post rfl hlaid (by rw [Try.params5]; intro t ht; simp at ht; rcases ht with rfl | rfl <;> exact ⟨by kernel_rfl, of_decide_eq_true (by kernel_rfl)⟩) hW' hA0 (fun _ _ _ => (trodAll_cons_mk (shut_bool Try.underlying4 _) trodAll_mk0)) rfl rfl hg (ok_one (by kernel_rfl) rfl (okWide_bool_mk Try.underlying4 _))⟩

theorem loopPlays_over : Rows.loopPlaysRow.holds Try.pinned (OpenSpec.ofChange Rows.loopPlaysSpec) :=
  OpenClaim.holds_of_wide 5 Try.f5 rfl rfl rfl rfl rfl rfl rfl ⟨rfl, rfl, rfl, rfl, rfl⟩ rfl rfl rfl rfl rfl (by kernel_rfl) Try.func5 (by kernel_rfl)
    (of_decide_eq_true (by kernel_rfl)) (by unfold Func.isWrapper; first | (rw [if_pos (by decide +kernel)]; kernel_rfl) | (rw [if_neg (by decide +kernel)]; exact ⟨rfl, rfl⟩))
    (fun os started H enc _ => loopPlays_lifted os started H enc)

/-- THE STATEMENT -/
theorem loopPlays_proved : Rows.LoopPlaysSaid :=
  loopPlays_over
#print axioms loopPlays_proved
end Go.Proofs.Ytcnoapogeohmkaa
