/- Proved: to zero it goes just when nothing was needed for so long as the plan says (the law LoopCools answers true, and its arguments read as they did). No conditions beyond the given row's own. -/
import Derived.Test.YtcnoapogeohmkaaLopV
import Derived.Test.YtcnoapogeohmkaaFrame
namespace Go.Proofs.Ytcnoapogeohmkaa
open Go.ChangeShapes Go.WideShapes Go.ChangeAt Go.RowKit
set_option linter.unusedVariables false
theorem cells_bool2 : Try.prog.cellsOf 4 = 1 := by kernel_rfl
set_option maxRecDepth 100000 in
theorem open_bools {H : Type} {enc : TypeId × Value → H} {w : World} {base : Nat} {spare : Nat → Bool} {held : Bool} {r : Reach} {b0 : Nat} {v : Value} {d : DataW H} {p : List MemPlace} (hv : Value.okWide Try.prog w r b0 28 v) (h : DataW.Trod enc Try.prog w base spare held 28 v d p) :
    ∃ (l : List Bool) (A : Option Addr) (cap : Nat), v = .slice A l.length cap ∧ l.length ≤ cap ∧ cap ≤ maxLen ∧ (∀ a ∈ l, True) ∧ Tide.ListIn w 1 encB v l :=
  open_list Try.underlying28 cells_bool2 (by decide) (fun a => rfl) (fun n cs y hl hy => by
    obtain ⟨b, hb, _⟩ := DataW.trod_bool Try.underlying4 hy
    exact ⟨b, hb, trivial⟩) (okWide_slice (P := Try.prog) Try.underlying28 hv) h
theorem loopCools_row (pl : Pln) (A : Option Addr) (cap : Nat) {w : World} (hft : ∀ t ∈ pl.trigs, t.fits) (hnm : pl.name.size ≤ maxLen) (hli : Tide.ListIn w 17 Trg.enc (.slice A pl.trigs.length cap) pl.trigs) (A1 : Option Addr) (cap1 : Nat) (xs : List Int) (hx : NumsIn w A1 xs) (hl : xs.length ≤ 9223372036854775807)
    (A2 : Option Addr) (cap2 : Nat) (bs : List Bool) (hb : Tide.ListIn w 1 encB (.slice A2 bs.length cap2) bs) (hbl : bs.length ≤ maxLen) (w' : World) (hw : w' = w) :
    Calls Try.prog 3 #[plnV pl (.slice A pl.trigs.length cap), .slice A1 xs.length cap1, .slice A2 bs.length cap2] w' fun e w1 => e = .returned (.bool true) ∧ Below w'.heap.size w' w1 := by
  subst hw
  exact loopCools_walk pl A cap (by simpa [maxLen] using hnm) A1 cap1 xs w' hx hl A2 cap2 bs hb (by simpa [maxLen] using hbl)
set_option maxHeartbeats 1000000 in
set_option maxRecDepth 100000 in
theorem loopCools_lifted (os : Os) (started : os.Started) (H : Type) (enc : TypeId × Value → H) :
    ReturnsInHanded {} Try.checked os 3 .any (Rows.loopCoolsSpec.pre6 enc Try.prog Try.f3 Rows.loopCoolsRow.domain false) (Rows.loopCoolsSpec.post enc Try.prog Try.f3 false true false false) := by
  refine returnsInHanded_of_change (C := Try.checked) (show ownKnob Try.prog.godebug = none by kernel_rfl) started (by kernel_rfl) Try.func3
    (ChangeSpec.witness6 (enc := enc) (C := Try.checked) false ⟨#[], #[(.agg #[.string ⟨#[]⟩, .int .i64 0, .int .i64 0, .int .i64 0, .int .i64 0, .int .i64 0, .int .i64 0, .int .i64 0, .int .i64 0, .int .i64 0, .int .i64 0, .int .i64 0, .int .i64 0, .int .i64 0, .int .i64 0, .int .i64 0, .int .i64 0, .slice none 0 0]), .slice none 0 0, .slice none 0 0], []⟩ 8 (by kernel_rfl) (by kernel_rfl) (by kernel_rfl) (by kernel_rfl)) ?_
  intro W base args ds gs before hval0 hW hcnd _
  have hval : ∀ (j : Nat) t v, Try.f3.params[j]? = some t → args[j]? = some v → Value.okWide Try.prog W .any base t v := hval0
  have hW' := hW
  obtain ⟨p, q, hA0, hV, rfl, hfz, hnd⟩ := hW
  have hA : DataW.TrodAll enc Try.prog W 0 (fun _ => true) true Try.f3.params.toList args.toList ds p := hA0
  rw [Try.params3] at hA hval
  obtain ⟨v0, vs0, d0, ds0, p0, q0, hargs, rfl, rfl, h0, r0⟩ := trodAll_cons hA
  obtain ⟨v1, vs1, d1, ds1, p1, q1, rfl, rfl, rfl, h1, r1⟩ := trodAll_cons r0
  obtain ⟨v2, vs2, d2, ds2, p2, q2, rfl, rfl, rfl, h2, r2⟩ := trodAll_cons r1
  obtain ⟨rfl, rfl, rfl⟩ := trodAll_nil r2
  obtain rfl : args = #[v0, v1, v2] := by cases args; simp_all
  obtain ⟨rfl, rfl⟩ := trodVars_none hV
  simp only [List.append_nil] at hW'
  have hlaid : laidOutB Try.prog = true := by kernel_rfl
  obtain ⟨pl, A, cap, rfl, hc1, hc2, hft, hnm, hli⟩ := open_plan (hval 0 26 v0 rfl rfl) h0
  obtain ⟨A1, cap1, xs, hx, hlc, hcm, hbd, rfl⟩ := open_nums (hval 1 27 v1 rfl rfl) h1
  obtain ⟨bs, A2, cap2, rfl, hb1, hb2, hb3, hb⟩ := open_bools (hval 2 28 v2 rfl rfl) h2
  try simp only [List.append_nil, List.nil_append] at hW'
  try simp only [List.append_nil, List.nil_append] at hA0
  refine (loopCools_row pl A cap hft hnm hli A1 cap1 xs hx (Nat.le_trans hlc hcm) A2 cap2 bs hb (Nat.le_trans hb1 hb2) W rfl).mono fun e W' ⟨he, hg⟩ => ?_
  subst he
  exact ⟨_, rfl, Tide.law_post rfl hlaid (by rw [Try.params3]; intro t ht; simp at ht; rcases ht with rfl | rfl | rfl <;> exact ⟨by kernel_rfl, of_decide_eq_true (by kernel_rfl)⟩) hW' hA0 (fun _ _ _ => (trodAll_cons_mk (shut_bool Try.underlying4 _) trodAll_mk0)) rfl rfl hg (ok_one (by kernel_rfl) rfl (okWide_bool_mk Try.underlying4 _))⟩

theorem loopCools_over : Rows.loopCoolsRow.holds Try.pinned (OpenSpec.ofChange Rows.loopCoolsSpec) :=
  OpenClaim.holds_of_wide 3 Try.f3 rfl rfl rfl rfl rfl rfl rfl ⟨rfl, rfl, rfl, rfl, rfl⟩ rfl rfl rfl rfl rfl (by kernel_rfl) Try.func3 (by kernel_rfl)
    (of_decide_eq_true (by kernel_rfl)) (by unfold Func.isWrapper; first | (rw [if_pos (by decide +kernel)]; kernel_rfl) | (rw [if_neg (by decide +kernel)]; exact ⟨rfl, rfl⟩))
    (fun os started H enc _ => loopCools_lifted os started H enc)

/-- THE STATEMENT -/
theorem loopCools_proved : Rows.LoopCoolsSaid :=
  loopCools_over
#print axioms loopCools_proved
end Go.Proofs.Ytcnoapogeohmkaa
