/- Proved: a plan that is handed in isn't kept; what is answered shares nothing with what is kept (the law WorldOwn answers true, and its arguments read as they did). No conditions beyond the given row's own. -/
import Derived.Test.YtlfaogkdghnmcaaGreatOwnW
import Derived.Test.YtlfaogkdghnmcaaGreatZBase
import Derived.Test.YtlfaogkdghnmcaaGreatOpenPlanZ
import Derived.Test.YtlfaogkdghnmcaaGreatOpenHaps
set_option linter.unusedVariables false
set_option linter.unusedSimpArgs false
namespace Go.Proofs.YtlfaogkdghnmcaaGreat
open Go.ChangeShapes Go.WideShapes Go.ChangeAt Go.RowKit
theorem worldOwn_row (pl : Pln) (A : Option Addr) (cap : Nat) (hc1 : pl.trigs.length ≤ cap) (hc2 : cap ≤ maxLen) (hft : ∀ t ∈ pl.trigs, t.fits) (hnm : pl.name.size ≤ maxLen)
    (v : Value) (l : List (List Int)) (w : World) (hli : Tide.ListIn w 17 Trg.enc (.slice A pl.trigs.length cap) pl.trigs) (hsz : pl.trigs.length * 120 ≤ 140737488351232) (hl : ArgRows w 3 v l) :
    Calls Tryz.prog 8 #[plnV pl (.slice A pl.trigs.length cap), v] w fun e w1 => e = .returned (.bool true) ∧ Below w.heap.size w w1 := by
  have h9 : maxLen = 9223372036854775807 := rfl
  obtain ⟨A1, cap1, rfl, h1, h2, h3, h4⟩ := hl
  exact worldOwn_walk pl A cap A1 cap1 l w hli hft (by omega) hsz h3 h4 (by omega)
set_option maxHeartbeats 1000000 in
set_option maxRecDepth 100000 in
theorem worldOwn_lifted (os : Os) (started : os.Started) (H : Type) (enc : TypeId × Value → H) :
    ReturnsInHanded {} Tryz.checked os 8 .any (Rows.worldOwnSpec.pre6 enc Tryz.prog Tryz.f8 Rows.worldOwnRow.domain false) (Rows.worldOwnSpec.post enc Tryz.prog Tryz.f8 false true false false) := by
  refine returnsInHanded_of_change_sized (C := Tryz.checked) (show ownKnob Tryz.prog.godebug = none by kernel_rfl) started (by kernel_rfl) Tryz.func8
    (ChangeSpec.witness6 (enc := enc) (C := Tryz.checked) false ⟨#[], #[(.agg #[.string ⟨#[]⟩, .int .i64 0, .int .i64 0, .int .i64 0, .int .i64 0, .int .i64 0, .int .i64 0, .int .i64 0, .int .i64 0, .int .i64 0, .int .i64 0, .int .i64 0, .int .i64 0, .int .i64 0, .int .i64 0, .int .i64 0, .int .i64 0, .slice none 0 0]), .slice none 0 0], []⟩ 8 (by kernel_rfl) (by kernel_rfl) (by kernel_rfl) (by kernel_rfl)) ?_
  intro W base args ds gs before hval0 hW hcnd hz _
  have hval : ∀ (j : Nat) t v, Tryz.f8.params[j]? = some t → args[j]? = some v → Value.okWide Tryz.prog W .any base t v := hval0
  have hW' := hW
  obtain ⟨p, q, hA0, hV, rfl, hfz, hnd⟩ := hW
  have hA : DataW.TrodAll enc Tryz.prog W 0 (fun _ => true) true Tryz.f8.params.toList args.toList ds p := hA0
  rw [Tryz.params8] at hA hval
  obtain ⟨v0, vs0, d0, ds0, p0, q0, hargs, rfl, rfl, h0, r0⟩ := trodAll_cons hA
  obtain ⟨v1, vs1, d1, ds1, p1, q1, rfl, rfl, rfl, h1, r1⟩ := trodAll_cons r0
  obtain ⟨rfl, rfl, rfl⟩ := trodAll_nil r1
  obtain rfl : args = #[v0, v1] := by cases args; simp_all
  obtain ⟨rfl, rfl⟩ := trodVars_none hV
  simp only [List.append_nil] at hW'
  have hlaid : laidOutB Tryz.prog = true := by kernel_rfl
  obtain ⟨pl, A, cap, rfl, hc1, hc2, hft, hnm, hli⟩ := open_plan (hval 0 29 v0 rfl rfl) h0
  obtain ⟨l, hl⟩ := open_haps (hval 1 50 v1 rfl rfl) h1
  try simp only [List.append_nil, List.nil_append] at hW'
  try simp only [List.append_nil, List.nil_append] at hA0
  refine (worldOwn_row pl A cap hc1 hc2 hft hnm _ l W hli (plan_size 0 h0 hz rfl rfl) hl).mono fun e W' ⟨he, hg⟩ => ?_
  subst he
  exact ⟨_, rfl, Tide.law_post rfl hlaid (by rw [Tryz.params8]; intro t ht; simp at ht; rcases ht with rfl | rfl <;> exact ⟨by kernel_rfl, of_decide_eq_true (by kernel_rfl)⟩) hW' hA0 (fun _ _ _ => (trodAll_cons_mk (shut_bool Tryz.underlying4 _) trodAll_mk0)) rfl rfl hg (ok_one (by kernel_rfl) rfl (okWide_bool_mk Tryz.underlying4 _))⟩

theorem worldOwn_over : Rows.worldOwnRow.holds Tryz.pinned (OpenSpec.ofChange Rows.worldOwnSpec) :=
  OpenClaim.holds_of_wide 8 Tryz.f8 rfl rfl rfl rfl rfl rfl rfl ⟨rfl, rfl, rfl, rfl, rfl⟩ rfl rfl rfl rfl rfl (by kernel_rfl) Tryz.func8 (by kernel_rfl)
    (of_decide_eq_true (by kernel_rfl)) (by unfold Func.isWrapper; first | (rw [if_pos (by decide +kernel)]; kernel_rfl) | (rw [if_neg (by decide +kernel)]; exact ⟨rfl, rfl⟩))
    (fun os started H enc _ => worldOwn_lifted os started H enc)

/-- THE STATEMENT -/
theorem worldOwn_proved : Rows.WorldOwnSaid :=
  worldOwn_over
#print axioms worldOwn_proved
end Go.Proofs.YtlfaogkdghnmcaaGreat
