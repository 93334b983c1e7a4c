/- Proved: whatever is handed in (at most 60 happenings), a world does what the document says, one by one (the law WorldPlays answers true, and its arguments read as they did). No conditions beyond the given row's own. -/
import Derived.Test.YtidonhndeohdlaaGreatWl43
set_option linter.unusedVariables false
set_option linter.unusedSimpArgs false
set_option maxRecDepth 100000
set_option maxHeartbeats 12800000
namespace Go.Proofs.YtidonhndeohdlaaGreat
open Go.ChangeShapes Go.WideShapes Go.ChangeAt Go.RowKit
theorem worldPlays_row (pl : Pln) (A : Option Addr) (cap : Nat) (hc1 : pl.trigs.length ≤ cap) (hc2 : cap ≤ maxLen) (hft : ∀ t ∈ pl.trigs, t.fits) (hnm : pl.name.size ≤ maxLen) (a1 : Int) (_ : (Lit.int .i64 a1).wf = true) (a2 : Int) (_ : (Lit.int .i64 a2).wf = true) (a3 : Int) (_ : (Lit.int .i64 a3).wf = true)
  (v : Value) (l : List (List Int)) (w : World) (hli : G.ListIn w 17 Trg.enc (.slice A pl.trigs.length cap) pl.trigs) (hl : ArgRows w 3 v l) :
  Calls Tryz.prog 3 #[plnV pl (.slice A pl.trigs.length cap), .int .i64 a1, .int .i64 a2, .int .i64 a3, v] w fun e w1 => e = .returned (.bool true) ∧ Below w.heap.size w w1 := by
 have h9 : maxLen = 9223372036854775807 := rfl
 obtain ⟨A1, cap1, rfl, h1, h2, h3, h4⟩ := hl
 exact worldPlays_walk pl A cap a1 a2 a3 A1 cap1 l w hli hft (by omega) (by omega) h3 h4 (by omega)
theorem worldPlays_lifted (os : Os) (started : os.Started) (H : Type) (enc : TypeId × Value → H) :
  ReturnsInHanded {} Tryz.checked os 3 .any (Rows.worldPlaysSpec.pre6 enc Tryz.prog Tryz.f3 Rows.worldPlaysRow.domain false) (Rows.worldPlaysSpec.post enc Tryz.prog Tryz.f3 false true false false) := by
 refine returnsInHanded_of_change (C := Tryz.checked) (show ownKnob Tryz.prog.godebug = none by kernel_rfl) started (by kernel_rfl) Tryz.func3
  (ChangeSpec.witness6 (enc := enc) (C := Tryz.checked) false ⟨#[], #[(.agg #[.string ⟨#[]⟩, .int .i64 0, .int .i64 0, .int .i64 0, .int .i64 0, .int .i64 0, .int .i64 0, .int .i64 0, .int .i64 0, .int .i64 0, .int .i64 0, .int .i64 0, .int .i64 0, .int .i64 0, .int .i64 0, .int .i64 0, .int .i64 0, .slice none 0 0]), .int .i64 0, .int .i64 0, .int .i64 0, .slice none 0 0], []⟩ 8 (by kernel_rfl) (by kernel_rfl) (by kernel_rfl) (by kernel_rfl)) ?_
 intro W base args ds gs before hval0 hW hcnd _
 have hval : ∀ (j : Nat) t v, Tryz.f3.params[j]? = some t → args[j]? = some v → Value.okWide Tryz.prog W .any base t v := hval0
 have hW' := hW
 obtain ⟨p, q, hA0, hV, rfl, hfz, hnd⟩ := hW
 have hA : DataW.TrodAll enc Tryz.prog W 0 (fun _ => true) true Tryz.f3.params.toList args.toList ds p := hA0
 rw [Tryz.params3] at hA hval
 obtain ⟨v0, vs0, d0, ds0, p0, q0, hargs, rfl, rfl, h0, r0⟩ := trodAll_cons hA
 obtain ⟨v1, vs1, d1, ds1, p1, q1, rfl, rfl, rfl, h1, r1⟩ := trodAll_cons r0
 obtain ⟨v2, vs2, d2, ds2, p2, q2, rfl, rfl, rfl, h2, r2⟩ := trodAll_cons r1
 obtain ⟨v3, vs3, d3, ds3, p3, q3, rfl, rfl, rfl, h3, r3⟩ := trodAll_cons r2
 obtain ⟨v4, vs4, d4, ds4, p4, q4, rfl, rfl, rfl, h4, r4⟩ := trodAll_cons r3
 obtain ⟨rfl, rfl, rfl⟩ := trodAll_nil r4
 obtain rfl : args = #[v0, v1, v2, v3, v4] := by cases args; simp_all
 obtain ⟨rfl, rfl⟩ := trodVars_none hV
 simp only [List.append_nil] at hW'
 have hlaid : laidOutB Tryz.prog = true := by kernel_rfl
 obtain ⟨pl, A, cap, rfl, hc1, hc2, hft, hnm, hli⟩ := open_plan (hval 0 26 v0 rfl rfl) h0
 obtain ⟨a1, rfl, rfl, rfl, w1⟩ := open_int Tryz.underlying3 (hval 1 3 v1 rfl rfl) h1
 obtain ⟨a2, rfl, rfl, rfl, w2⟩ := open_int Tryz.underlying3 (hval 2 3 v2 rfl rfl) h2
 obtain ⟨a3, rfl, rfl, rfl, w3⟩ := open_int Tryz.underlying3 (hval 3 3 v3 rfl rfl) h3
 obtain ⟨l, hl⟩ := open_haps (hval 4 27 v4 rfl rfl) h4
 try simp only [List.append_nil, List.nil_append] at hW'
 try simp only [List.append_nil, List.nil_append] at hA0
 refine (worldPlays_row pl A cap hc1 hc2 hft hnm a1 w1 a2 w2 a3 w3 _ l W hli hl).mono fun e W' ⟨he, hg⟩ => ?_
 subst he
 exact ⟨_, rfl, G.law_post rfl hlaid (by rw [Tryz.params3]; intro t ht; simp at ht; rcases ht with rfl | rfl | rfl <;> exact ⟨by kernel_rfl, of_decide_eq_true (by kernel_rfl)⟩) hW' hA0 (fun _ _ _ => (trodAll_cons_mk (shut_bool Tryz.underlying4 _) trodAll_mk0)) rfl rfl hg (ok_one (by kernel_rfl) rfl (okWide_bool_mk Tryz.underlying4 _))⟩
theorem worldPlays_over : Rows.worldPlaysRow.holds Tryz.pinned (OpenSpec.ofChange Rows.worldPlaysSpec) :=
 OpenClaim.holds_of_wide 3 Tryz.f3 rfl rfl rfl rfl rfl rfl rfl ⟨rfl, rfl, rfl, rfl, rfl⟩ rfl rfl rfl rfl rfl (by kernel_rfl) Tryz.func3 (by kernel_rfl)
  (of_decide_eq_true (by kernel_rfl)) (by unfold Func.isWrapper; first | (rw [if_pos (by decide +kernel)]; kernel_rfl) | (rw [if_neg (by decide +kernel)]; exact ⟨rfl, rfl⟩))
  (fun os started H enc _ => worldPlays_lifted os started H enc)
theorem worldPlays_proved : Rows.WorldPlaysSaid :=
 worldPlays_over
#print axioms worldPlays_proved
end Go.Proofs.YtidonhndeohdlaaGreat
