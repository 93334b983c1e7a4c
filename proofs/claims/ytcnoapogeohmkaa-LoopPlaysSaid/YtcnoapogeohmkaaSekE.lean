/- The contracts of the reference's Match and Seek. -/
import Derived.Test.YtcnoapogeohmkaaSekD
import Derived.Test.YtcnoapogeohmkaaZSpan
set_option linter.unusedVariables false
set_option linter.unusedSimpArgs false
namespace Go.Proofs.Ytcnoapogeohmkaa
open Go.RowKit
set_option linter.unusedVariables false
set_option maxRecDepth 100000 in
set_option maxHeartbeats 25600000 in
theorem refMatch (c : Cr) (hf : c.fits) (y mo d h mi s wk : Int) (w : World) : Calls Try.prog 79 #[.agg c.cells, civ y mo d h mi s wk] w fun e w' => e = .returned (.bool (c.fit mo d h mi wk)) ∧ Below w.heap.size w w' := by
  obtain ⟨ci, ch, cd, cm, cw, ad, aw⟩ := c
  obtain ⟨f0, f1, f2, f3, f4⟩ := hf
  have F0 : Word ci := f0; have F1 : Word ch := f1; have F2 : Word cd := f2; have F3 : Word cm := f3; have F4 : Word cw := f4
  clear f0 f1 f2 f3 f4
  have HV := Lib.hid (show Cr.fit ⟨ci, ch, cd, cm, cw, ad, aw⟩ mo d h mi wk = (hasB cm mo && (if ad || aw then hasB cd d && hasB cw wk else hasB cd d || hasB cw wk) && hasB ch h && hasB ci mi) from rfl)
  have H0 := Lib.hid (fun (W : World) => refHas ci mi W F0); have H1 := Lib.hid (fun (W : World) => refHas ch h W F1); have H3 := Lib.hid (fun (W : World) => refHas cm mo W F3)
  clear F0 F1 F3
  generalize Cr.fit ⟨ci, ch, cd, cm, cw, ad, aw⟩ mo d h mi wk = R at HV ⊢
  generalize hasB ci mi = b0 at HV H0; generalize hasB ch h = b1 at HV H1; generalize hasB cm mo = b3 at HV H3
  unfold Cr.cells civ
  have HBd := Lib.hid (((Below.refl w.heap.size w).alloc (Nat.le_refl _) (.cells #[.int .u64 (ci : Int), .int .u64 (ch : Int), .int .u64 (cd : Int), .int .u64 (cm : Int), .int .u64 (cw : Int), .bool ad, .bool aw] 61)).alloc (by simp) (.cells #[.int .i64 y, .int .i64 mo, .int .i64 d, .int .i64 h, .int .i64 mi, .int .i64 s, .int .i64 wk] 105))
  have HX := Lib.hid ((Tide.At.made w 61 #[.int .u64 (ci : Int), .int .u64 (ch : Int), .int .u64 (cd : Int), .int .u64 (cm : Int), .int .u64 (cw : Int), .bool ad, .bool aw]).alloc (.cells #[.int .i64 y, .int .i64 mo, .int .i64 d, .int .i64 h, .int .i64 mi, .int .i64 s, .int .i64 wk] 105))
  have ht := Tide.At.made (w.alloc (.cells #[.int .u64 (ci : Int), .int .u64 (ch : Int), .int .u64 (cd : Int), .int .u64 (cm : Int), .int .u64 (cw : Int), .bool ad, .bool aw] 61)) 105 #[.int .i64 y, .int .i64 mo, .int .i64 d, .int .i64 h, .int .i64 mi, .int .i64 s, .int .i64 wk]
  simp only [World.size_alloc] at ht
  have HT := Lib.hid ht
  clear ht
  go_enter Try.func79, Try.ntmps79
  go_upto_region 1 with fail
  generalize (w.alloc (.cells #[.int .u64 (ci : Int), .int .u64 (ch : Int), .int .u64 (cd : Int), .int .u64 (cm : Int), .int .u64 (cw : Int), .bool ad, .bool aw] 61)).alloc (.cells #[.int .i64 y, .int .i64 mo, .int .i64 d, .int .i64 h, .int .i64 mi, .int .i64 s, .int .i64 wk] 105) = W at HBd HX HT ⊢
  have x0 : W.cell? ⟨w.heap.size, 0, none⟩ = some (.int .u64 (ci : Int)) := HX.out.here (i := 0) rfl; have x1 : W.cell? ⟨w.heap.size, 1, none⟩ = some (.int .u64 (ch : Int)) := HX.out.here (i := 1) rfl; have x2 : W.cell? ⟨w.heap.size, 2, none⟩ = some (.int .u64 (cd : Int)) := HX.out.here (i := 2) rfl; have x3 : W.cell? ⟨w.heap.size, 3, none⟩ = some (.int .u64 (cm : Int)) := HX.out.here (i := 3) rfl; have x4 : W.cell? ⟨w.heap.size, 4, none⟩ = some (.int .u64 (cw : Int)) := HX.out.here (i := 4) rfl; have x5 : W.cell? ⟨w.heap.size, 5, none⟩ = some (.bool ad) := HX.out.here (i := 5) rfl; have x6 : W.cell? ⟨w.heap.size, 6, none⟩ = some (.bool aw) := HX.out.here (i := 6) rfl
  have t0 : W.cell? ⟨w.heap.size + 1, 0, none⟩ = some (.int .i64 y) := HT.out.here (i := 0) rfl; have t1 : W.cell? ⟨w.heap.size + 1, 1, none⟩ = some (.int .i64 mo) := HT.out.here (i := 1) rfl; have t2 : W.cell? ⟨w.heap.size + 1, 2, none⟩ = some (.int .i64 d) := HT.out.here (i := 2) rfl; have t3 : W.cell? ⟨w.heap.size + 1, 3, none⟩ = some (.int .i64 h) := HT.out.here (i := 3) rfl; have t4 : W.cell? ⟨w.heap.size + 1, 4, none⟩ = some (.int .i64 mi) := HT.out.here (i := 4) rfl; have t5 : W.cell? ⟨w.heap.size + 1, 5, none⟩ = some (.int .i64 s) := HT.out.here (i := 5) rfl; have t6 : W.cell? ⟨w.heap.size + 1, 6, none⟩ = some (.int .i64 wk) := HT.out.here (i := 6) rfl
  go_quiet ((go_at_call 69; exact Calls.quiet_of_same (refHas' _ _ _ (by assumption))))
  clear F2 F4
  generalize hasB cd d = b2 at HV ⊢
  generalize hasB cw wk = b4 at HV ⊢
  rename Nat => nq
  clear x0 x1 x2 x3 x4 x5 x6 t0 t1 t2 t3 t4 t5 t6
  have HBd := Lib.hid (below_drewN HBd.out nq)
  have HX := Lib.hid (HX.out.drewN nq)
  have HT := Lib.hid (HT.out.drewN nq)
  generalize W.drewN nq = W2 at HBd HX HT ⊢
  have x0 : W2.cell? ⟨w.heap.size, 0, none⟩ = some (.int .u64 (ci : Int)) := HX.out.here (i := 0) rfl; have x1 : W2.cell? ⟨w.heap.size, 1, none⟩ = some (.int .u64 (ch : Int)) := HX.out.here (i := 1) rfl; have x2 : W2.cell? ⟨w.heap.size, 2, none⟩ = some (.int .u64 (cd : Int)) := HX.out.here (i := 2) rfl; have x3 : W2.cell? ⟨w.heap.size, 3, none⟩ = some (.int .u64 (cm : Int)) := HX.out.here (i := 3) rfl; have x4 : W2.cell? ⟨w.heap.size, 4, none⟩ = some (.int .u64 (cw : Int)) := HX.out.here (i := 4) rfl; have x5 : W2.cell? ⟨w.heap.size, 5, none⟩ = some (.bool ad) := HX.out.here (i := 5) rfl; have x6 : W2.cell? ⟨w.heap.size, 6, none⟩ = some (.bool aw) := HX.out.here (i := 6) rfl
  have t0 : W2.cell? ⟨w.heap.size + 1, 0, none⟩ = some (.int .i64 y) := HT.out.here (i := 0) rfl; have t1 : W2.cell? ⟨w.heap.size + 1, 1, none⟩ = some (.int .i64 mo) := HT.out.here (i := 1) rfl; have t2 : W2.cell? ⟨w.heap.size + 1, 2, none⟩ = some (.int .i64 d) := HT.out.here (i := 2) rfl; have t3 : W2.cell? ⟨w.heap.size + 1, 3, none⟩ = some (.int .i64 h) := HT.out.here (i := 3) rfl; have t4 : W2.cell? ⟨w.heap.size + 1, 4, none⟩ = some (.int .i64 mi) := HT.out.here (i := 4) rfl; have t5 : W2.cell? ⟨w.heap.size + 1, 5, none⟩ = some (.int .i64 s) := HT.out.here (i := 5) rfl; have t6 : W2.cell? ⟨w.heap.size + 1, 6, none⟩ = some (.int .i64 wk) := HT.out.here (i := 6) rfl
  cases ad <;> cases aw <;> cases b2 <;> cases b4
  case false.false.false.false | false.true.false.false | false.true.false.true | false.true.true.false | true.false.false.false | true.false.false.true | true.false.true.false | true.true.false.false | true.true.false.true | true.true.true.false =>
    as_aux_lemma =>
    go_wp2_with fail
    go_ret
    exact ⟨by rw [HV.out]; cases b3 <;> rfl, HBd.out⟩
  case false.false.false.true | false.false.true.false | false.false.true.true | false.true.true.true | true.false.true.true | true.true.true.true =>
    as_aux_lemma =>
    go_wp2_with fail
    refine (H0.out _).mono ?_
    rintro e w2 ⟨rfl, rfl⟩
    cases b0
    · go_wp2_with fail
      go_ret
      exact ⟨by rw [HV.out]; cases b3 <;> cases b1 <;> rfl, HBd.out⟩
    · go_wp2_with fail
      refine (H1.out _).mono ?_
      rintro e w2 ⟨rfl, rfl⟩
      cases b1
      · go_wp2_with fail
        go_ret
        exact ⟨by rw [HV.out]; cases b3 <;> rfl, HBd.out⟩
      · go_wp2_with fail
        refine (H3.out _).mono ?_
        rintro e w2 ⟨rfl, rfl⟩
        go_wp2_with fail
        go_ret
        exact ⟨by rw [HV.out]; cases b3 <;> rfl, HBd.out⟩
end Go.Proofs.Ytcnoapogeohmkaa
