/- Proved: whatever is handed in, Of and Want answer what the document says (the law NeedSays answers true, and its arguments read as they did). No conditions beyond the given row's own. -/
import Derived.Test.YtikjefghpnffkaaNeedW
import Derived.Test.YtikjefghpnffkaaFrame
import Derived.Test.YtikjefghpnffkaaOpenTrig
import Derived.Test.YtikjefghpnffkaaOpenRead
namespace Go.Proofs.Ytikjefghpnffkaa
open Go.ChangeShapes Go.WideShapes Go.ChangeAt Go.RowKit
set_option linter.unusedVariables false
theorem needSays_row (kind target act : Int) (ai ah ad am aw bi bh bd bm bw : Nat) (aa ab ba bb : Bool) (f1 : Cr.fits ⟨ai, ah, ad, am, aw, aa, ab⟩) (f2 : Cr.fits ⟨bi, bh, bd, bm, bw, ba, bb⟩) (failed : Bool) (A : Option Addr) (cap : Nat) (xs : List Int) {w : World} (hx : NumsIn w A xs) (hl : xs.length ≤ 9223372036854775807) (sec : Int) (h2 : (Lit.int .i64 sec).wf = true) (shift : Int) (h3 : (Lit.int .i64 shift).wf = true) (now : Int) (h4 : (Lit.int .i64 now).wf = true) (tol : Int) (h5 : (Lit.int .i64 tol).wf = true) (w' : World) (hw : w' = w) : Calls Try.prog 10 #[.agg #[.int .i64 kind, .int .i64 target, .int .i64 act, .int .u64 (ai : Int), .int .u64 (ah : Int), .int .u64 (ad : Int), .int .u64 (am : Int), .int .u64 (aw : Int), .bool aa, .bool ab, .int .u64 (bi : Int), .int .u64 (bh : Int), .int .u64 (bd : Int), .int .u64 (bm : Int), .int .u64 (bw : Int), .bool ba, .bool bb], .agg #[.bool failed, .slice A xs.length cap], .int .i64 sec, .int .i64 shift, .int .i64 now, .int .i64 tol] w' fun e w1 => e = .returned (.bool true) ∧ Below w'.heap.size w' w1 := by
  subst hw
  exact needSays_walk ai ah ad am aw bi bh bd bm bw aa ab ba bb f1 f2 kind target act failed A cap xs sec shift now tol w' hx hl
set_option maxHeartbeats 1000000 in
set_option maxRecDepth 100000 in
theorem needSays_lifted (os : Os) (started : os.Started) (H : Type) (enc : TypeId × Value → H) :
    ReturnsInHanded {} Try.checked os 10 .any (Rows.needSaysSpec.pre6 enc Try.prog Try.f10 Rows.needSaysRow.domain false) (Rows.needSaysSpec.post enc Try.prog Try.f10 false true false false) := by
  refine returnsInHanded_of_change (C := Try.checked) (show ownKnob Try.prog.godebug = none by kernel_rfl) started (by kernel_rfl) Try.func10
    (ChangeSpec.witness6 (enc := enc) (C := Try.checked) false ⟨#[], #[(.agg #[.int .i64 0, .int .i64 0, .int .i64 0, .int .u64 0, .int .u64 0, .int .u64 0, .int .u64 0, .int .u64 0, .bool false, .bool false, .int .u64 0, .int .u64 0, .int .u64 0, .int .u64 0, .int .u64 0, .bool false, .bool false]), (.agg #[.bool false, .slice none 0 0]), .int .i64 0, .int .i64 0, .int .i64 0, .int .i64 0], []⟩ 8 (by kernel_rfl) (by kernel_rfl) (by kernel_rfl) (by kernel_rfl)) ?_
  intro W base args ds gs before hval0 hW hcnd _
  have hval : ∀ (j : Nat) t v, Try.f10.params[j]? = some t → args[j]? = some v → Value.okWide Try.prog W .any base t v := hval0
  have hW' := hW
  obtain ⟨p, q, hA0, hV, rfl, hfz, hnd⟩ := hW
  have hA : DataW.TrodAll enc Try.prog W 0 (fun _ => true) true Try.f10.params.toList args.toList ds p := hA0
  rw [Try.params10] at hA hval
  obtain ⟨v0, vs0, d0, ds0, p0, q0, hargs, rfl, rfl, h0, r0⟩ := trodAll_cons hA
  obtain ⟨v1, vs1, d1, ds1, p1, q1, rfl, rfl, rfl, h1, r1⟩ := trodAll_cons r0
  obtain ⟨v2, vs2, d2, ds2, p2, q2, rfl, rfl, rfl, h2, r2⟩ := trodAll_cons r1
  obtain ⟨v3, vs3, d3, ds3, p3, q3, rfl, rfl, rfl, h3, r3⟩ := trodAll_cons r2
  obtain ⟨v4, vs4, d4, ds4, p4, q4, rfl, rfl, rfl, h4, r4⟩ := trodAll_cons r3
  obtain ⟨v5, vs5, d5, ds5, p5, q5, rfl, rfl, rfl, h5, r5⟩ := trodAll_cons r4
  obtain ⟨rfl, rfl, rfl⟩ := trodAll_nil r5
  obtain rfl : args = #[v0, v1, v2, v3, v4, v5] := by cases args; simp_all
  obtain ⟨rfl, rfl⟩ := trodVars_none hV
  simp only [List.append_nil] at hW'
  have hlaid : laidOutB Try.prog = true := by kernel_rfl
  obtain ⟨kind, target, act, ai, ah, ad, am, aw, bi, bh, bd, bm, bw, aa, ab, ba, bb, f1, f2, g1, g2, g3, rfl⟩ := open_trig (hval 0 50 v0 rfl rfl) h0
  obtain ⟨failed, A, cap, xs, hx, hlc, hcm, hbd, rfl⟩ := open_reading (hval 1 57 v1 rfl rfl) h1
  obtain ⟨a2, rfl, rfl, rfl, w2⟩ := open_int Try.underlying3 (hval 2 3 v2 rfl rfl) h2
  obtain ⟨a3, rfl, rfl, rfl, w3⟩ := open_int Try.underlying3 (hval 3 3 v3 rfl rfl) h3
  obtain ⟨a4, rfl, rfl, rfl, w4⟩ := open_int Try.underlying3 (hval 4 3 v4 rfl rfl) h4
  obtain ⟨a5, rfl, rfl, rfl, w5⟩ := open_int Try.underlying3 (hval 5 3 v5 rfl rfl) h5
  try simp only [List.append_nil, List.nil_append] at hW'
  try simp only [List.append_nil, List.nil_append] at hA0
  refine (needSays_row kind target act ai ah ad am aw bi bh bd bm bw aa ab ba bb f1 f2 failed A cap xs hx (Nat.le_trans hlc hcm) a2 w2 a3 w3 a4 w4 a5 w5 W rfl).mono fun e W' ⟨he, hg⟩ => ?_
  subst he
  exact ⟨_, rfl, Tide.law_post rfl hlaid (by rw [Try.params10]; intro t ht; simp at ht; rcases ht with rfl | rfl | rfl <;> exact ⟨by kernel_rfl, of_decide_eq_true (by kernel_rfl)⟩) hW' hA0 (fun _ _ _ => (trodAll_cons_mk (shut_bool Try.underlying4 _) trodAll_mk0)) rfl rfl hg (ok_one (by kernel_rfl) rfl (okWide_bool_mk Try.underlying4 _))⟩

theorem needSays_over : Rows.needSaysRow.holds Try.pinned (OpenSpec.ofChange Rows.needSaysSpec) :=
  OpenClaim.holds_of_wide 10 Try.f10 rfl rfl rfl rfl rfl rfl rfl ⟨rfl, rfl, rfl, rfl, rfl⟩ rfl rfl rfl rfl rfl (by kernel_rfl) Try.func10 (by kernel_rfl)
    (of_decide_eq_true (by kernel_rfl)) (by unfold Func.isWrapper; first | (rw [if_pos (by decide +kernel)]; kernel_rfl) | (rw [if_neg (by decide +kernel)]; exact ⟨rfl, rfl⟩))
    (fun os started H enc _ => needSays_lifted os started H enc)

/-- THE STATEMENT -/
theorem needSays_proved : Rows.NeedSaysSaid :=
  needSays_over
#print axioms needSays_proved
end Go.Proofs.Ytikjefghpnffkaa
