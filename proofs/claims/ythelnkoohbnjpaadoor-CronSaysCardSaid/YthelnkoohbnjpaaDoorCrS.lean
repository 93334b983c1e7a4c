/- The walk of CronSays. -/
import Derived.Test.YthelnkoohbnjpaaDoorRdtC
import Derived.Test.YthelnkoohbnjpaaDoorSekE
import Derived.RegionTactic
set_option linter.unusedVariables false
set_option linter.unusedSimpArgs false
namespace Go.Proofs.YthelnkoohbnjpaaDoor
open Go.RowKit
set_option linter.unusedVariables false
structure SY (w0 W : World) (g t : Nat) (c : Cr) (civ : Array Value) : Prop where
  a : Tide.At W g 24 c.cells
  b : Tide.At W t 30 civ
  below : Below w0.heap.size w0 W
theorem SY.next {w0 W W' : World} {g t : Nat} {c : Cr} {civ : Array Value} (h : SY w0 W g t c civ) (hb : Below W.heap.size W W') : SY w0 W' g t c civ :=
  ⟨h.a.below hb h.a.inside, h.b.below hb h.b.inside, h.below.trans (hb.mono h.below.size)⟩
theorem SY.drew {w0 W : World} {g t : Nat} {c : Cr} {civ : Array Value} (h : SY w0 W g t c civ) : SY w0 W.drew g t c civ := ⟨h.a.drew, h.b.drew, h.below.drew⟩
theorem sayText {w0 W : World} {g t : Nat} {c : Cr} (y mo d h mi s wk : Int) (hf : c.fits) (he : c.err = 0) (h0 : SY w0 W g t c #[.int .i64 y, .int .i64 mo, .int .i64 d, .int .i64 h, .int .i64 mi, .int .i64 s, .int .i64 wk]) : Calls Tryd.prog 12 #[.agg c.cells] W fun e w' => e = .returned (.string c.text) ∧ SY w0 w' g t c #[.int .i64 y, .int .i64 mo, .int .i64 d, .int .i64 h, .int .i64 mi, .int .i64 s, .int .i64 wk] ∧ w'.cell? ⟨g, 0, none⟩ = some (.int .u64 (c.mi : Int)) ∧ w'.cell? ⟨g, 1, none⟩ = some (.int .u64 (c.h : Int)) ∧ w'.cell? ⟨g, 2, none⟩ = some (.int .u64 (c.d : Int)) ∧ w'.cell? ⟨g, 3, none⟩ = some (.int .u64 (c.mo : Int)) ∧ w'.cell? ⟨g, 4, none⟩ = some (.int .u64 (c.wk : Int)) ∧ w'.cell? ⟨g, 5, none⟩ = some (.bool c.ad) ∧ w'.cell? ⟨g, 6, none⟩ = some (.bool c.aw) ∧ w'.cell? ⟨t, 0, none⟩ = some (.int .i64 y) ∧ w'.cell? ⟨t, 1, none⟩ = some (.int .i64 mo) ∧ w'.cell? ⟨t, 2, none⟩ = some (.int .i64 d) ∧ w'.cell? ⟨t, 3, none⟩ = some (.int .i64 h) ∧ w'.cell? ⟨t, 4, none⟩ = some (.int .i64 mi) ∧ w'.cell? ⟨t, 5, none⟩ = some (.int .i64 s) ∧ w'.cell? ⟨t, 6, none⟩ = some (.int .i64 wk) :=
  (refCronText c hf he W).mono fun _ w' ⟨he, hb⟩ =>
    have hr := h0.next hb
    ⟨he, hr, hr.a.here rfl, hr.a.here rfl, hr.a.here rfl, hr.a.here rfl, hr.a.here rfl, hr.a.here rfl, hr.a.here rfl, hr.b.here rfl, hr.b.here rfl, hr.b.here rfl, hr.b.here rfl, hr.b.here rfl, hr.b.here rfl, hr.b.here rfl⟩
theorem sayMatch {w0 W : World} {g t : Nat} {c : Cr} (y mo d h mi s wk : Int) (hf : c.fits) (h0 : SY w0 W g t c #[.int .i64 y, .int .i64 mo, .int .i64 d, .int .i64 h, .int .i64 mi, .int .i64 s, .int .i64 wk]) : Calls Tryd.prog 13 #[.agg c.cells, civ y mo d h mi s wk] W fun e w' => e = .returned (.bool (c.fit mo d h mi wk)) ∧ SY w0 w' g t c #[.int .i64 y, .int .i64 mo, .int .i64 d, .int .i64 h, .int .i64 mi, .int .i64 s, .int .i64 wk] ∧ w'.cell? ⟨g, 0, none⟩ = some (.int .u64 (c.mi : Int)) ∧ w'.cell? ⟨g, 1, none⟩ = some (.int .u64 (c.h : Int)) ∧ w'.cell? ⟨g, 2, none⟩ = some (.int .u64 (c.d : Int)) ∧ w'.cell? ⟨g, 3, none⟩ = some (.int .u64 (c.mo : Int)) ∧ w'.cell? ⟨g, 4, none⟩ = some (.int .u64 (c.wk : Int)) ∧ w'.cell? ⟨g, 5, none⟩ = some (.bool c.ad) ∧ w'.cell? ⟨g, 6, none⟩ = some (.bool c.aw) ∧ w'.cell? ⟨t, 0, none⟩ = some (.int .i64 y) ∧ w'.cell? ⟨t, 1, none⟩ = some (.int .i64 mo) ∧ w'.cell? ⟨t, 2, none⟩ = some (.int .i64 d) ∧ w'.cell? ⟨t, 3, none⟩ = some (.int .i64 h) ∧ w'.cell? ⟨t, 4, none⟩ = some (.int .i64 mi) ∧ w'.cell? ⟨t, 5, none⟩ = some (.int .i64 s) ∧ w'.cell? ⟨t, 6, none⟩ = some (.int .i64 wk) :=
  (refMatch c hf y mo d h mi s wk W).mono fun _ w' ⟨he, hb⟩ =>
    have hr := h0.next hb
    ⟨he, hr, hr.a.here rfl, hr.a.here rfl, hr.a.here rfl, hr.a.here rfl, hr.a.here rfl, hr.a.here rfl, hr.a.here rfl, hr.b.here rfl, hr.b.here rfl, hr.b.here rfl, hr.b.here rfl, hr.b.here rfl, hr.b.here rfl, hr.b.here rfl⟩
set_option maxRecDepth 100000 in
set_option maxHeartbeats 3200000 in
theorem cronSays_walk (c : Cr) (hf : c.fits) (y mo d h mi s wk : Int) (w : World) : Calls Tryd.prog 4 #[.agg c.cells, civ y mo d h mi s wk] w fun e w' => e = .returned (.bool true) ∧ Below w.heap.size w w' := by
  have hA := (Tide.At.made w 24 c.cells).alloc (.cells #[.int .i64 y, .int .i64 mo, .int .i64 d, .int .i64 h, .int .i64 mi, .int .i64 s, .int .i64 wk] 30)
  have hC := Tide.At.made (w.alloc (.cells c.cells 24)) 30 #[.int .i64 y, .int .i64 mo, .int .i64 d, .int .i64 h, .int .i64 mi, .int .i64 s, .int .i64 wk]
  simp only [World.size_alloc] at hC
  have HS := Lib.hid (show SY w ((w.alloc (.cells c.cells 24)).alloc (.cells #[.int .i64 y, .int .i64 mo, .int .i64 d, .int .i64 h, .int .i64 mi, .int .i64 s, .int .i64 wk] 30)) w.heap.size (w.heap.size + 1) c #[.int .i64 y, .int .i64 mo, .int .i64 d, .int .i64 h, .int .i64 mi, .int .i64 s, .int .i64 wk] from ⟨hA, hC, ((Below.refl _ _).alloc (Nat.le_refl _) _).alloc (by simp) _⟩)
  have HF := Lib.hid hf
  clear hA hC hf
  unfold civ
  go_enter Tryd.func4, Tryd.ntmps4
  go_upto_region 1 with fail
  generalize (w.alloc (.cells c.cells 24)).alloc (.cells #[.int .i64 y, .int .i64 mo, .int .i64 d, .int .i64 h, .int .i64 mi, .int .i64 s, .int .i64 wk] 30) = W at HS ⊢
  have x0 : W.cell? ⟨w.heap.size, 0, none⟩ = some (.int .u64 (c.mi : Int)) := HS.out.a.here rfl
  have x1 : W.cell? ⟨w.heap.size, 1, none⟩ = some (.int .u64 (c.h : Int)) := HS.out.a.here rfl
  have x2 : W.cell? ⟨w.heap.size, 2, none⟩ = some (.int .u64 (c.d : Int)) := HS.out.a.here rfl
  have x3 : W.cell? ⟨w.heap.size, 3, none⟩ = some (.int .u64 (c.mo : Int)) := HS.out.a.here rfl
  have x4 : W.cell? ⟨w.heap.size, 4, none⟩ = some (.int .u64 (c.wk : Int)) := HS.out.a.here rfl
  have x5 : W.cell? ⟨w.heap.size, 5, none⟩ = some (.bool c.ad) := HS.out.a.here rfl
  have x6 : W.cell? ⟨w.heap.size, 6, none⟩ = some (.bool c.aw) := HS.out.a.here rfl
  have t0 : W.cell? ⟨w.heap.size + 1, 0, none⟩ = some (.int .i64 y) := HS.out.b.here rfl
  have t1 : W.cell? ⟨w.heap.size + 1, 1, none⟩ = some (.int .i64 mo) := HS.out.b.here rfl
  have t2 : W.cell? ⟨w.heap.size + 1, 2, none⟩ = some (.int .i64 d) := HS.out.b.here rfl
  have t3 : W.cell? ⟨w.heap.size + 1, 3, none⟩ = some (.int .i64 h) := HS.out.b.here rfl
  have t4 : W.cell? ⟨w.heap.size + 1, 4, none⟩ = some (.int .i64 mi) := HS.out.b.here rfl
  have t5 : W.cell? ⟨w.heap.size + 1, 5, none⟩ = some (.int .i64 s) := HS.out.b.here rfl
  have t6 : W.cell? ⟨w.heap.size + 1, 6, none⟩ = some (.int .i64 wk) := HS.out.b.here rfl
  go_wp2_with fail
  refine (refCron c HF.out _).mono ?_
  rintro e w1 ⟨rfl, hb1⟩
  have HS1 := Lib.hid (HS.out.next hb1)
  clear hb1 HS x0 x1 x2 x3 x4 x5 x6 t0 t1 t2 t3 t4 t5 t6
  obtain ⟨N, HN⟩ : ∃ N, Hid (c.err = N) := ⟨_, Lib.hid rfl⟩
  rw [HN.out]
  go_upto_if 15 with (fail)
  go_cut [6, 7] (fun x z wy => x = .string (if c.err = 0 then c.text else ⟨#[]⟩) ∧ z = .bool (c.match mo d h mi wk) ∧ Hid (SY w wy w.heap.size (w.heap.size + 1) c #[.int .i64 y, .int .i64 mo, .int .i64 d, .int .i64 h, .int .i64 mi, .int .i64 s, .int .i64 wk]))
  case first =>
    by_cases he : c.err = 0
    · obtain rfl : N = 0 := by rw [← HN.out]; exact he
      have hS := HS1.out.drew
      have x0 : w1.cell? ⟨w.heap.size, 0, none⟩ = some (.int .u64 (c.mi : Int)) := HS1.out.a.here rfl
      have x1 : w1.cell? ⟨w.heap.size, 1, none⟩ = some (.int .u64 (c.h : Int)) := HS1.out.a.here rfl
      have x2 : w1.cell? ⟨w.heap.size, 2, none⟩ = some (.int .u64 (c.d : Int)) := HS1.out.a.here rfl
      have x3 : w1.cell? ⟨w.heap.size, 3, none⟩ = some (.int .u64 (c.mo : Int)) := HS1.out.a.here rfl
      have x4 : w1.cell? ⟨w.heap.size, 4, none⟩ = some (.int .u64 (c.wk : Int)) := HS1.out.a.here rfl
      have x5 : w1.cell? ⟨w.heap.size, 5, none⟩ = some (.bool c.ad) := HS1.out.a.here rfl
      have x6 : w1.cell? ⟨w.heap.size, 6, none⟩ = some (.bool c.aw) := HS1.out.a.here rfl
      have t0 : w1.cell? ⟨w.heap.size + 1, 0, none⟩ = some (.int .i64 y) := HS1.out.b.here rfl
      have t1 : w1.cell? ⟨w.heap.size + 1, 1, none⟩ = some (.int .i64 mo) := HS1.out.b.here rfl
      have t2 : w1.cell? ⟨w.heap.size + 1, 2, none⟩ = some (.int .i64 d) := HS1.out.b.here rfl
      have t3 : w1.cell? ⟨w.heap.size + 1, 3, none⟩ = some (.int .i64 h) := HS1.out.b.here rfl
      have t4 : w1.cell? ⟨w.heap.size + 1, 4, none⟩ = some (.int .i64 mi) := HS1.out.b.here rfl
      have t5 : w1.cell? ⟨w.heap.size + 1, 5, none⟩ = some (.int .i64 s) := HS1.out.b.here rfl
      have t6 : w1.cell? ⟨w.heap.size + 1, 6, none⟩ = some (.int .i64 wk) := HS1.out.b.here rfl
      go_upto_region 4 with fail
      go_region_with (first | (go_at_call 12; go_loud (refine (sayText (w0 := w) (g := w.heap.size) (t := w.heap.size + 1) (y := y) (mo := mo) (d := d) (h := h) (mi := mi) (s := s) (wk := wk) HF.out he (by assumption)).mono ?_); rintro e w2 ⟨rfl, hS, x0, x1, x2, x3, x4, x5, x6, t0, t1, t2, t3, t4, t5, t6⟩) | (go_at_call 13; go_loud (refine (sayMatch (w0 := w) (g := w.heap.size) (t := w.heap.size + 1) (y := y) (mo := mo) (d := d) (h := h) (mi := mi) (s := s) (wk := wk) HF.out (by assumption)).mono ?_); rintro e w2 ⟨rfl, hS, x0, x1, x2, x3, x4, x5, x6, t0, t1, t2, t3, t4, t5, t6⟩))
      all_goals
        have HX := Lib.hid hS
        clear x0 x1 x2 x3 x4 x5 x6 t0 t1 t2 t3 t4 t5 t6
        go_wp2_with fail
        go_meet
        exact ⟨by rw [if_pos he], (by
          unfold Cr.match
          cases ho : c.ok with
          | true => rw [Bool.true_and]
          | false => rw [Cr.err_no ho] at he; exact absurd he (by decide)), HX⟩
    · have hN : N ≠ 0 := by rw [← HN.out]; exact he
      go_wp2_with fail
      go_meet
      exact ⟨by rw [if_neg he], by
        unfold Cr.match
        cases ho : c.ok with
        | false => rfl
        | true => exact absurd (Cr.err_yes ho) he, HS1⟩
  case rest =>
    obtain ⟨rfl, rfl, HX⟩ := hcut
    clear HS1
    obtain ⟨T, HT⟩ : ∃ T, Hid ((if c.err = 0 then c.text else (⟨#[]⟩ : ByteArray)) = T) := ⟨_, Lib.hid rfl⟩
    rw [HT.out]
    obtain ⟨M, HM⟩ : ∃ M, Hid (c.match mo d h mi wk = M) := ⟨_, Lib.hid rfl⟩
    rw [HM.out]
    have x0 : wc.cell? ⟨w.heap.size, 0, none⟩ = some (.int .u64 (c.mi : Int)) := HX.out.a.here rfl
    have x1 : wc.cell? ⟨w.heap.size, 1, none⟩ = some (.int .u64 (c.h : Int)) := HX.out.a.here rfl
    have x2 : wc.cell? ⟨w.heap.size, 2, none⟩ = some (.int .u64 (c.d : Int)) := HX.out.a.here rfl
    have x3 : wc.cell? ⟨w.heap.size, 3, none⟩ = some (.int .u64 (c.mo : Int)) := HX.out.a.here rfl
    have x4 : wc.cell? ⟨w.heap.size, 4, none⟩ = some (.int .u64 (c.wk : Int)) := HX.out.a.here rfl
    have x5 : wc.cell? ⟨w.heap.size, 5, none⟩ = some (.bool c.ad) := HX.out.a.here rfl
    have x6 : wc.cell? ⟨w.heap.size, 6, none⟩ = some (.bool c.aw) := HX.out.a.here rfl
    have t0 : wc.cell? ⟨w.heap.size + 1, 0, none⟩ = some (.int .i64 y) := HX.out.b.here rfl
    have t1 : wc.cell? ⟨w.heap.size + 1, 1, none⟩ = some (.int .i64 mo) := HX.out.b.here rfl
    have t2 : wc.cell? ⟨w.heap.size + 1, 2, none⟩ = some (.int .i64 d) := HX.out.b.here rfl
    have t3 : wc.cell? ⟨w.heap.size + 1, 3, none⟩ = some (.int .i64 h) := HX.out.b.here rfl
    have t4 : wc.cell? ⟨w.heap.size + 1, 4, none⟩ = some (.int .i64 mi) := HX.out.b.here rfl
    have t5 : wc.cell? ⟨w.heap.size + 1, 5, none⟩ = some (.int .i64 s) := HX.out.b.here rfl
    have t6 : wc.cell? ⟨w.heap.size + 1, 6, none⟩ = some (.int .i64 wk) := HX.out.b.here rfl
    go_wp2_with fail
    refine (cronPrint c HF.out _).mono ?_
    rintro e w2 ⟨rfl, hb2⟩
    have HX2 := Lib.hid (HX.out.next hb2)
    rw [HT.out, HN.out]
    clear hb2 HX x0 x1 x2 x3 x4 x5 x6 t0 t1 t2 t3 t4 t5 t6
    have x0 : w2.cell? ⟨w.heap.size, 0, none⟩ = some (.int .u64 (c.mi : Int)) := HX2.out.a.here rfl
    have x1 : w2.cell? ⟨w.heap.size, 1, none⟩ = some (.int .u64 (c.h : Int)) := HX2.out.a.here rfl
    have x2 : w2.cell? ⟨w.heap.size, 2, none⟩ = some (.int .u64 (c.d : Int)) := HX2.out.a.here rfl
    have x3 : w2.cell? ⟨w.heap.size, 3, none⟩ = some (.int .u64 (c.mo : Int)) := HX2.out.a.here rfl
    have x4 : w2.cell? ⟨w.heap.size, 4, none⟩ = some (.int .u64 (c.wk : Int)) := HX2.out.a.here rfl
    have x5 : w2.cell? ⟨w.heap.size, 5, none⟩ = some (.bool c.ad) := HX2.out.a.here rfl
    have x6 : w2.cell? ⟨w.heap.size, 6, none⟩ = some (.bool c.aw) := HX2.out.a.here rfl
    have t0 : w2.cell? ⟨w.heap.size + 1, 0, none⟩ = some (.int .i64 y) := HX2.out.b.here rfl
    have t1 : w2.cell? ⟨w.heap.size + 1, 1, none⟩ = some (.int .i64 mo) := HX2.out.b.here rfl
    have t2 : w2.cell? ⟨w.heap.size + 1, 2, none⟩ = some (.int .i64 d) := HX2.out.b.here rfl
    have t3 : w2.cell? ⟨w.heap.size + 1, 3, none⟩ = some (.int .i64 h) := HX2.out.b.here rfl
    have t4 : w2.cell? ⟨w.heap.size + 1, 4, none⟩ = some (.int .i64 mi) := HX2.out.b.here rfl
    have t5 : w2.cell? ⟨w.heap.size + 1, 5, none⟩ = some (.int .i64 s) := HX2.out.b.here rfl
    have t6 : w2.cell? ⟨w.heap.size + 1, 6, none⟩ = some (.int .i64 wk) := HX2.out.b.here rfl
    go_wp2_with fail
    refine (cronMatch c HF.out y mo d h mi s wk _).mono ?_
    rintro e w3 ⟨rfl, hb3⟩
    have HX3 := Lib.hid (HX2.out.next hb3)
    rw [HM.out, HN.out]
    clear hb3 HX2 x0 x1 x2 x3 x4 x5 x6 t0 t1 t2 t3 t4 t5 t6
    have x0 : w3.cell? ⟨w.heap.size, 0, none⟩ = some (.int .u64 (c.mi : Int)) := HX3.out.a.here rfl
    have x1 : w3.cell? ⟨w.heap.size, 1, none⟩ = some (.int .u64 (c.h : Int)) := HX3.out.a.here rfl
    have x2 : w3.cell? ⟨w.heap.size, 2, none⟩ = some (.int .u64 (c.d : Int)) := HX3.out.a.here rfl
    have x3 : w3.cell? ⟨w.heap.size, 3, none⟩ = some (.int .u64 (c.mo : Int)) := HX3.out.a.here rfl
    have x4 : w3.cell? ⟨w.heap.size, 4, none⟩ = some (.int .u64 (c.wk : Int)) := HX3.out.a.here rfl
    have x5 : w3.cell? ⟨w.heap.size, 5, none⟩ = some (.bool c.ad) := HX3.out.a.here rfl
    have x6 : w3.cell? ⟨w.heap.size, 6, none⟩ = some (.bool c.aw) := HX3.out.a.here rfl
    have t0 : w3.cell? ⟨w.heap.size + 1, 0, none⟩ = some (.int .i64 y) := HX3.out.b.here rfl
    have t1 : w3.cell? ⟨w.heap.size + 1, 1, none⟩ = some (.int .i64 mo) := HX3.out.b.here rfl
    have t2 : w3.cell? ⟨w.heap.size + 1, 2, none⟩ = some (.int .i64 d) := HX3.out.b.here rfl
    have t3 : w3.cell? ⟨w.heap.size + 1, 3, none⟩ = some (.int .i64 h) := HX3.out.b.here rfl
    have t4 : w3.cell? ⟨w.heap.size + 1, 4, none⟩ = some (.int .i64 mi) := HX3.out.b.here rfl
    have t5 : w3.cell? ⟨w.heap.size + 1, 5, none⟩ = some (.int .i64 s) := HX3.out.b.here rfl
    have t6 : w3.cell? ⟨w.heap.size + 1, 6, none⟩ = some (.int .i64 wk) := HX3.out.b.here rfl
    go_wp2_with fail
    refine (cronCheck c HF.out _).mono ?_
    rintro e w4 ⟨rfl, hb4⟩
    have HX4 := Lib.hid (HX3.out.next hb4)
    rw [HN.out]
    clear hb4 HX3 x0 x1 x2 x3 x4 x5 x6 t0 t1 t2 t3 t4 t5 t6
    go_wp2_with fail
    go_ret
    exact ⟨rfl, HX4.out.below⟩
end Go.Proofs.YthelnkoohbnjpaaDoor
