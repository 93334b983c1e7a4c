/- The reference's planLine at the first line. -/
import Derived.Test.YthelnkoohbnjpaaDoorPrlM
import Derived.Deep.RegionHeld3
import Derived.RegionTactic
import Derived.WalkSpells
set_option linter.unusedVariables false
set_option linter.unusedSimpArgs false
namespace Go.Proofs.YthelnkoohbnjpaaDoor
open Go.RowKit
set_option linter.unusedVariables false
theorem name_built (y : ByteArray) : Tryd.prog.built 42 [(0, .string y), (2, .int .i64 1), (3, .int .i64 1), (4, .int .i64 1)] = some (plnC ⟨y, 0, 1, 1, 1, 0, 0, 0, 0, ⟨0, 0, 0, 0⟩, ⟨0, 0, 0, 0⟩, []⟩ (.slice none 0 0)) := by kernel_rfl
theorem rl_head {ws : List ByteArray} {p : Pln} (h : headOk ws = false) : lineN 0 p ws = none := if_neg (by rw [h]; simp)
theorem rl_cells0 {p p' : Pln} {ws : List ByteArray} {v : Value} (h : lineN 0 p ws = some p') : p'.trigs = p.trigs ∧ (((((plnC p v).setIfInBounds 0 (.string (Tide.pieceAt ws 1))).setIfInBounds 1 (.int .i64 (wV (Tide.pieceAt ws 2)))).setIfInBounds 2 (.int .i64 (wV (Tide.pieceAt ws 3)))).setIfInBounds 3 (.int .i64 (wV (Tide.pieceAt ws 4)))).setIfInBounds 4 (.int .i64 (wV (Tide.pieceAt ws 5))) = plnC p' v := by
  have e := ite_some (c := headOk ws = true) h
  subst e
  exact ⟨rfl, rfl⟩
set_option maxRecDepth 100000 in
set_option maxHeartbeats 12800000 in
theorem planLine0 (w0 W : World) (gp bw cap : Nat) (v : Value) (pl : Pln) (ws : List ByteArray) (h : RlS w0 W gp v pl) (hw : WdsAt W bw 0 ws) (hbg : bw ≠ gp) (hs : ∀ x ∈ ws, x.size ≤ 1000000) (h0 : 1 ≤ ws.length) (hl : ws.length ≤ 1000001) (hc : ws.length ≤ cap) :
    Calls Tryd.prog 50 #[.pointer (some ⟨gp, 0, none⟩), .int .i64 0, .slice (some ⟨bw, 0, none⟩) ws.length cap] W (RlPost w0 gp 0 pl ws) := by
  have HH := Lib.hid h
  have HFb := Lib.hid h.below
  obtain ⟨x, hx⟩ := Tide.get_some ws (show 0 < ws.length by omega)
  have hpx := Tide.pieceAt_get hx
  have c0 : W.cell? ⟨bw, 0, none⟩ = some (.string x) := hw.cell 0 x hx
  have i0 : (0 : Int) < (ws.length : Int) := by omega
  have i1 : (ws.length : Int) ≤ 1000001 := by omega
  by_cases h6 : ws.length = 6
  · by_cases hxw : x = wdPlan
    · obtain ⟨y, hy⟩ := Tide.get_some ws (show 1 < ws.length by omega)
      have hpy := Tide.pieceAt_get hy
      have c1 : W.cell? ⟨bw, 1, none⟩ = some (.string y) := hw.cell 1 y hy
      have e1 : (x.toList == [112, 108, 97, 110]) = true := by subst hxw; rw [ByteArray.toList_eq]; rfl
      have HHd := Lib.hid (show headOk ws = (nameOk y && wordsOk (ws.drop 2) 4) by unfold headOk; rw [hpx, hpy, decide_eq_true hxw, decide_eq_true h6]; rfl)
      have HPy := Lib.hid hpy
      have hyl := hs y (List.mem_of_getElem? hy)
      have HW := Lib.hid hw
      have hd : (ws.drop 2).length = 4 := by rw [List.length_drop]; omega
      have HWh := Lib.hid (fun (W' : World) (hb : Below W.heap.size W W') => (by
        have q := refWholes (ws.drop 2) bw 2 (cap - 2) 4 W' (by have := (hw.below hb).drop 2; rwa [Nat.zero_add] at this) (fun z hz => hs z (List.mem_of_mem_drop hz)) (by omega) (by decide)
        rw [hd] at q
        exact q : Calls Tryd.prog 66 #[.slice (some ⟨bw, 2, none⟩) 4 (cap - 2), .int .i64 4, .int .i64 7] W' (WhsPost W' (ws.drop 2) 4)))
      have HN := Lib.hid hd
      have hbl := hw.lt
      have hgl := h.plan.inside
      have hcap : 2 < cap := by omega
      have hcap2 : cap ≠ 2 := by omega
      have hcap3 : (2 : Int) ≤ (cap : Int) := by omega
      clear h hw hxw hpx hpy hd hs hl h0
      have E6 := h6
      rw [h6] at i0 i1 hc ⊢
      have HE6 := Lib.hid E6
      clear E6 h6 i0 i1
      obtain ⟨q0, hq0⟩ : ∃ q0 : Pln, q0 = ⟨y, 0, 1, 1, 1, 0, 0, 0, 0, ⟨0, 0, 0, 0⟩, ⟨0, 0, 0, 0⟩, []⟩ := ⟨_, rfl⟩
      have HB0 := Lib.hid (show Tryd.prog.built 42 [(0, .string y), (2, .int .i64 1), (3, .int .i64 1), (4, .int .i64 1)] = some (plnC q0 (.slice none 0 0)) by rw [hq0]; exact name_built y)
      have HQ0 := Lib.hid hq0
      clear hq0
      have HZ := Lib.hid (show Tide.At (W.alloc (.cells #[.string ⟨#[]⟩, .int .i64 0, .int .i64 0, .int .i64 0, .int .i64 0, .int .i64 0, .int .i64 0, .int .i64 0, .int .i64 0, .int .i64 0, .int .i64 0, .int .i64 0, .int .i64 0, .int .i64 0, .int .i64 0, .int .i64 0, .int .i64 0, .slice none 0 0] 42)) W.heap.size 42 (plnC zeroP (.slice none 0 0)) from Tide.At.made W 42 (plnC zeroP (.slice none 0 0)))
      go_enter Tryd.func50, Tryd.ntmps50
      go_upto_region 6 with (first | refine build_law rfl 42 _ rfl [(0, .string y), (2, .int .i64 1), (3, .int .i64 1), (4, .int .i64 1)] rfl _ HB0.out ?_ | refine wpList_store_row rfl 42 (.tmp 7) (.tmp 33) rfl W.heap.size (plnC q0 (.slice none 0 0)) rfl rfl 42 (plnC zeroP (.slice none 0 0)) HZ.out (by kernel_rfl) rfl (by kernel_rfl) ?_)
      have HA := Lib.hid (rl_set HZ.out (plnC q0 (.slice none 0 0)))
      have hbz := rl_row ((Below.refl W.heap.size W).alloc (Nat.le_refl _) (.cells #[.string ⟨#[]⟩, .int .i64 0, .int .i64 0, .int .i64 0, .int .i64 0, .int .i64 0, .int .i64 0, .int .i64 0, .int .i64 0, .int .i64 0, .int .i64 0, .int .i64 0, .int .i64 0, .int .i64 0, .int .i64 0, .int .i64 0, .int .i64 0, .slice none 0 0] 42)) (g := W.heap.size) (Nat.le_refl _) (plnC q0 (.slice none 0 0))
      have HWh2 := Lib.hid (HWh.out _ hbz)
      have HB := Lib.hid hbz
      clear hbz HZ HB0 HWh
      generalize (W.alloc (.cells #[.string ⟨#[]⟩, .int .i64 0, .int .i64 0, .int .i64 0, .int .i64 0, .int .i64 0, .int .i64 0, .int .i64 0, .int .i64 0, .int .i64 0, .int .i64 0, .int .i64 0, .int .i64 0, .int .i64 0, .int .i64 0, .int .i64 0, .int .i64 0, .slice none 0 0] 42)).setRow W.heap.size (plnC q0 (.slice none 0 0)) = W2 at HA HB HWh2 ⊢
      obtain ⟨g7, hg7⟩ : ∃ g7, W.heap.size = g7 := ⟨_, rfl⟩
      have HG7 := Lib.hid hg7
      rw [hg7] at HA HB hbl hgl ⊢
      clear hg7
      go_wp2_with fail
      refine HWh2.out.mono ?_
      rintro e w3 ⟨vn, rfl, hy3, hn3, hb3⟩
      have HB3 := Lib.hid (HB.out.trans (hb3.mono (by rw [← HG7.out]; exact HB.out.size)))
      cases hok : wordsOk (ws.drop 2) 4
      · have hvn := hn3 hok
        subst hvn
        have HF := Lib.hid (rl_no (w' := w3) (gp := gp) (rl_head (p := pl) (show headOk ws = false by rw [HHd.out, hok, Bool.and_false])) (HFb.out.trans (HB3.out.mono (by rw [← HG7.out]; exact HFb.out.size))))
        have hq := fun w => Lib.run_eql_slice_nil (P := Tryd.prog) w 69 3 none 0 0 0 0 Tryd.underlying69
        clear hy3 hn3 hok hb3
        go_wp2_with fail
        go_ret
        exact HF.out
      · obtain ⟨bn, cn, hvn, hbn1, hbn2, hcn⟩ := nums_form (by decide) HN.out (hy3 hok)
        subst hvn
        have hq := fun w => Lib.run_eql_slice_nil (P := Tryd.prog) w 69 3 (some ⟨bn, 0, none⟩) 4 cn 0 0 Tryd.underlying69
        have HA3 := Lib.hid (HA.out.below hb3 HA.out.inside)
        have HCn := Lib.hid hcn
        have HOk := Lib.hid hok
        have hb23 := HB.out.size
        obtain ⟨nm, hnm⟩ : ∃ nm, nameOk y = nm := ⟨_, rfl⟩
        have HPl := Lib.hid (show Calls Tryd.prog 17 #[.agg (plnC q0 (.slice none 0 0))] w3 fun e w' => e = .returned (.int .i64 (if nm = true then 0 else 3)) ∧ Below w3.heap.size w3 w' from by
          rw [HQ0.out, ← hnm, ← name_plan y]
          exact refPlan y 0 1 1 1 0 0 0 0 0 0 0 0 0 0 0 0 none 0 [] w3 ⟨none, 0, rfl, fun h => absurd h (by simp)⟩ (fun t ht => by cases ht) (by omega) (by simp))
        have HNm := Lib.hid hnm
        have HHp := Lib.hid hok
        clear hnm
        clear hy3 hn3 hok hb3 hcn
        go_upto_region 7 with fail
        go_wp2_with (refine rl_load_guard (by rfl) 42 (.tmp 7) rfl g7 rfl 42 _ (0, 0) _ HA3.out Tryd.underlying42 rfl (by kernel_rfl) ?_)
        refine HPl.out.mono ?_
        rintro e w4 ⟨rfl, hb4⟩
        have HB4 := Lib.hid (HB3.out.trans (hb4.mono (by rw [← HG7.out]; exact HB3.out.size)))
        have HB34 := Lib.hid hb4
        clear hb4 HPl HA3
        cases nm
        · have HF := Lib.hid (rl_no (w' := w4) (gp := gp) (rl_head (p := pl) (show headOk ws = false by rw [HHd.out, HNm.out]; rfl)) (HFb.out.trans (HB4.out.mono (by rw [← HG7.out]; exact HFb.out.size))))
          clear hq
          go_wp2_with fail
          go_ret
          exact HF.out
        · obtain ⟨p', hp'⟩ : ∃ p', lineN 0 pl ws = some p' := ⟨_, if_pos (show headOk ws = true by rw [HHd.out, HNm.out, HOk.out]; rfl)⟩
          have HL := Lib.hid hp'
          clear hp'
          have HR4 := Lib.hid (HH.out.next (show Below W.heap.size W w4 by rw [HG7.out]; exact HB4.out))
          have d1 : w4.cell? ⟨bw, 1, none⟩ = some (.string y) := (HB4.out.cell (p := ⟨bw, 1, none⟩) hbl).trans c1
          have HNu := Lib.hid (fun (j : Nat) (hj : j < 4) => (HB34.out.cell (p := ⟨bn, j, none⟩) hbn2).trans (HCn.out j hj))
          obtain ⟨v1, hv1⟩ : ∃ z, wV (Tide.pieceAt ws 2) = z := ⟨_, rfl⟩
          obtain ⟨v2, hv2⟩ : ∃ z, wV (Tide.pieceAt ws 3) = z := ⟨_, rfl⟩
          obtain ⟨v3, hv3⟩ : ∃ z, wV (Tide.pieceAt ws 4) = z := ⟨_, rfl⟩
          obtain ⟨v4, hv4⟩ : ∃ z, wV (Tide.pieceAt ws 5) = z := ⟨_, rfl⟩
          have n0 : w4.cell? ⟨bn, 0, none⟩ = some (.int .i64 v1) := by have q := HNu.out 0 (by decide); rw [piece_drop, hv1] at q; exact q
          have n1 : w4.cell? ⟨bn, 1, none⟩ = some (.int .i64 v2) := by have q := HNu.out 1 (by decide); rw [piece_drop, hv2] at q; exact q
          have n2 : w4.cell? ⟨bn, 2, none⟩ = some (.int .i64 v3) := by have q := HNu.out 2 (by decide); rw [piece_drop, hv3] at q; exact q
          have n3 : w4.cell? ⟨bn, 3, none⟩ = some (.int .i64 v4) := by have q := HNu.out 3 (by decide); rw [piece_drop, hv4] at q; exact q
          have HE := Lib.hid (show (((((plnC pl v).setIfInBounds 0 (.string y)).setIfInBounds 1 (.int .i64 v1)).setIfInBounds 2 (.int .i64 v2)).setIfInBounds 3 (.int .i64 v3)).setIfInBounds 4 (.int .i64 v4) = plnC p' v from by rw [← hv1, ← hv2, ← hv3, ← hv4, ← HPy.out]; exact (rl_cells0 HL.out).2)
          have l1 : bw < w4.heap.size := Nat.lt_of_lt_of_le hbl (by rw [← HG7.out]; exact HB4.out.size)
          have l2 : bn < w4.heap.size := Nat.lt_of_lt_of_le hbn2 HB34.out.size
          have l3 : bn ≠ gp := by have := HG7.out; omega
          have q0' := HR4.out.plan.here (i := 0) rfl
          have q1' := HR4.out.plan.here (i := 1) rfl
          have q2' := HR4.out.plan.here (i := 2) rfl
          have q3' := HR4.out.plan.here (i := 3) rfl
          have q4' := HR4.out.plan.here (i := 4) rfl
          have s0 := HR4.out.plan.soft 0
          have s1 := HR4.out.plan.soft 1
          have s2 := HR4.out.plan.soft 2
          have s3 := HR4.out.plan.soft 3
          have s4 := HR4.out.plan.soft 4
          clear hq hv1 hv2 hv3 hv4 HNu
          go_upto_region 9 with fail

          refine wp_region_held_drew (S := fun Wx => Tide.Chg (fun b => b = gp) w4 Wx) (by kernel_rfl) (Tide.Chg.refl _ _).drew (fun hS => ?_)
          change wpAnyH _ _ _ _ _ 35 #[false, false, false, false, false, false, false, false, false, false, false, false, false, false, false, false, false, false, false, false, false, false, false, false, false, false, false, false, false, false, false, false, false, false, false] _ (World.drew _)
          refine wpAnyH_take (i := 0) (v := .pointer (some ⟨gp, 0, none⟩)) rfl (by kernel_rfl) (by kernel_rfl) (by kernel_rfl) (fun _ _ _ h => h) (.inl ⟨by rfl, fun W hW => ?_⟩) hS ?_
          · clear hW; go_simp
          simp only [Act.put, List.getElem_toArray, List.getElem_cons_succ, List.getElem_cons_zero, List.setIfInBounds_toArray, List.set_cons_zero, List.set_cons_succ]
          refine wpAnyH_take (i := 1) (v := .pointer (some ⟨gp, 0, none⟩)) rfl (by kernel_rfl) (by kernel_rfl) (by kernel_rfl) (fun _ _ _ h => h) (.inl ⟨by rfl, fun W hW => ?_⟩) hS ?_
          · clear hW; go_simp
          simp only [Act.put, List.getElem_toArray, List.getElem_cons_succ, List.getElem_cons_zero, List.setIfInBounds_toArray, List.set_cons_zero, List.set_cons_succ]
          refine wpAnyH_take (i := 2) (v := .pointer (some ⟨gp, 0, none⟩)) rfl (by kernel_rfl) (by kernel_rfl) (by kernel_rfl) (fun _ _ _ h => h) (.inl ⟨by rfl, fun W hW => ?_⟩) hS ?_
          · clear hW; go_simp
          simp only [Act.put, List.getElem_toArray, List.getElem_cons_succ, List.getElem_cons_zero, List.setIfInBounds_toArray, List.set_cons_zero, List.set_cons_succ]
          refine wpAnyH_take (i := 3) (v := .pointer (some ⟨gp, 0, none⟩)) rfl (by kernel_rfl) (by kernel_rfl) (by kernel_rfl) (fun _ _ _ h => h) (.inl ⟨by rfl, fun W hW => ?_⟩) hS ?_
          · clear hW; go_simp
          simp only [Act.put, List.getElem_toArray, List.getElem_cons_succ, List.getElem_cons_zero, List.setIfInBounds_toArray, List.set_cons_zero, List.set_cons_succ]
          refine wpAnyH_take (i := 4) (v := .pointer (some ⟨gp, 0, none⟩)) rfl (by kernel_rfl) (by kernel_rfl) (by kernel_rfl) (fun _ _ _ h => h) (.inl ⟨by rfl, fun W hW => ?_⟩) hS ?_
          · clear hW; go_simp
          simp only [Act.put, List.getElem_toArray, List.getElem_cons_succ, List.getElem_cons_zero, List.setIfInBounds_toArray, List.set_cons_zero, List.set_cons_succ]
          refine wpAnyH_take (i := 5) (v := .slice (some ⟨bw, 0, none⟩) 6 cap) rfl (by kernel_rfl) (by kernel_rfl) (by kernel_rfl) (fun _ _ _ h => h) (.inl ⟨by rfl, fun W hW => ?_⟩) hS ?_
          · clear hW; go_simp
          simp only [Act.put, List.getElem_toArray, List.getElem_cons_succ, List.getElem_cons_zero, List.setIfInBounds_toArray, List.set_cons_zero, List.set_cons_succ]
          refine wpAnyH_take (i := 6) (v := .pointer (some ⟨bw, 1, none⟩)) rfl (by kernel_rfl) (by kernel_rfl) (by kernel_rfl) (fun _ _ _ h => h) (.inl ⟨by rfl, fun W hW => ?_⟩) hS ?_
          · clear hW; go_simp
          simp only [Act.put, List.getElem_toArray, List.getElem_cons_succ, List.getElem_cons_zero, List.setIfInBounds_toArray, List.set_cons_zero, List.set_cons_succ]
          refine wpAnyH_take (i := 7) (v := .string y) rfl (by kernel_rfl) (by kernel_rfl) (by kernel_rfl) (fun _ _ _ h => h) (.inl ⟨by rfl, fun W hW => ?_⟩) hS ?_
          · have d := (chg_cell hW l1 hbg 1).trans d1; clear hW; go_simp
          simp only [Act.put, List.getElem_toArray, List.getElem_cons_succ, List.getElem_cons_zero, List.setIfInBounds_toArray, List.set_cons_zero, List.set_cons_succ]
          refine wpAnyH_take (i := 8) (v := .slice (some ⟨bn, 0, none⟩) 4 cn) rfl (by kernel_rfl) (by kernel_rfl) (by kernel_rfl) (fun _ _ _ h => h) (.inl ⟨by rfl, fun W hW => ?_⟩) hS ?_
          · clear hW; go_simp
          simp only [Act.put, List.getElem_toArray, List.getElem_cons_succ, List.getElem_cons_zero, List.setIfInBounds_toArray, List.set_cons_zero, List.set_cons_succ]
          refine wpAnyH_take (i := 9) (v := .pointer (some ⟨bn, 0, none⟩)) rfl (by kernel_rfl) (by kernel_rfl) (by kernel_rfl) (fun _ _ _ h => h) (.inl ⟨by rfl, fun W hW => ?_⟩) hS ?_
          · clear hW; go_simp
          simp only [Act.put, List.getElem_toArray, List.getElem_cons_succ, List.getElem_cons_zero, List.setIfInBounds_toArray, List.set_cons_zero, List.set_cons_succ]
          refine wpAnyH_take (i := 10) (v := .int .i64 v1) rfl (by kernel_rfl) (by kernel_rfl) (by kernel_rfl) (fun _ _ _ h => h) (.inl ⟨by rfl, fun W hW => ?_⟩) hS ?_
          · have d := (chg_cell hW l2 l3 0).trans n0; clear hW; go_simp
          simp only [Act.put, List.getElem_toArray, List.getElem_cons_succ, List.getElem_cons_zero, List.setIfInBounds_toArray, List.set_cons_zero, List.set_cons_succ]
          refine wpAnyH_take (i := 11) (v := .slice (some ⟨bn, 0, none⟩) 4 cn) rfl (by kernel_rfl) (by kernel_rfl) (by kernel_rfl) (fun _ _ _ h => h) (.inl ⟨by rfl, fun W hW => ?_⟩) hS ?_
          · clear hW; go_simp
          simp only [Act.put, List.getElem_toArray, List.getElem_cons_succ, List.getElem_cons_zero, List.setIfInBounds_toArray, List.set_cons_zero, List.set_cons_succ]
          refine wpAnyH_take (i := 12) (v := .pointer (some ⟨bn, 1, none⟩)) rfl (by kernel_rfl) (by kernel_rfl) (by kernel_rfl) (fun _ _ _ h => h) (.inl ⟨by rfl, fun W hW => ?_⟩) hS ?_
          · clear hW; go_simp
          simp only [Act.put, List.getElem_toArray, List.getElem_cons_succ, List.getElem_cons_zero, List.setIfInBounds_toArray, List.set_cons_zero, List.set_cons_succ]
          refine wpAnyH_take (i := 13) (v := .int .i64 v2) rfl (by kernel_rfl) (by kernel_rfl) (by kernel_rfl) (fun _ _ _ h => h) (.inl ⟨by rfl, fun W hW => ?_⟩) hS ?_
          · have d := (chg_cell hW l2 l3 1).trans n1; clear hW; go_simp
          simp only [Act.put, List.getElem_toArray, List.getElem_cons_succ, List.getElem_cons_zero, List.setIfInBounds_toArray, List.set_cons_zero, List.set_cons_succ]
          refine wpAnyH_take (i := 14) (v := .slice (some ⟨bn, 0, none⟩) 4 cn) rfl (by kernel_rfl) (by kernel_rfl) (by kernel_rfl) (fun _ _ _ h => h) (.inl ⟨by rfl, fun W hW => ?_⟩) hS ?_
          · clear hW; go_simp
          simp only [Act.put, List.getElem_toArray, List.getElem_cons_succ, List.getElem_cons_zero, List.setIfInBounds_toArray, List.set_cons_zero, List.set_cons_succ]
          refine wpAnyH_take (i := 15) (v := .pointer (some ⟨bn, 2, none⟩)) rfl (by kernel_rfl) (by kernel_rfl) (by kernel_rfl) (fun _ _ _ h => h) (.inl ⟨by rfl, fun W hW => ?_⟩) hS ?_
          · clear hW; go_simp
          simp only [Act.put, List.getElem_toArray, List.getElem_cons_succ, List.getElem_cons_zero, List.setIfInBounds_toArray, List.set_cons_zero, List.set_cons_succ]
          refine wpAnyH_take (i := 16) (v := .int .i64 v3) rfl (by kernel_rfl) (by kernel_rfl) (by kernel_rfl) (fun _ _ _ h => h) (.inl ⟨by rfl, fun W hW => ?_⟩) hS ?_
          · have d := (chg_cell hW l2 l3 2).trans n2; clear hW; go_simp
          simp only [Act.put, List.getElem_toArray, List.getElem_cons_succ, List.getElem_cons_zero, List.setIfInBounds_toArray, List.set_cons_zero, List.set_cons_succ]
          refine wpAnyH_take (i := 17) (v := .slice (some ⟨bn, 0, none⟩) 4 cn) rfl (by kernel_rfl) (by kernel_rfl) (by kernel_rfl) (fun _ _ _ h => h) (.inl ⟨by rfl, fun W hW => ?_⟩) hS ?_
          · clear hW; go_simp
          simp only [Act.put, List.getElem_toArray, List.getElem_cons_succ, List.getElem_cons_zero, List.setIfInBounds_toArray, List.set_cons_zero, List.set_cons_succ]
          refine wpAnyH_take (i := 18) (v := .pointer (some ⟨bn, 3, none⟩)) rfl (by kernel_rfl) (by kernel_rfl) (by kernel_rfl) (fun _ _ _ h => h) (.inl ⟨by rfl, fun W hW => ?_⟩) hS ?_
          · clear hW; go_simp
          simp only [Act.put, List.getElem_toArray, List.getElem_cons_succ, List.getElem_cons_zero, List.setIfInBounds_toArray, List.set_cons_zero, List.set_cons_succ]
          refine wpAnyH_take (i := 19) (v := .int .i64 v4) rfl (by kernel_rfl) (by kernel_rfl) (by kernel_rfl) (fun _ _ _ h => h) (.inl ⟨by rfl, fun W hW => ?_⟩) hS ?_
          · have d := (chg_cell hW l2 l3 3).trans n3; clear hW; go_simp
          simp only [Act.put, List.getElem_toArray, List.getElem_cons_succ, List.getElem_cons_zero, List.setIfInBounds_toArray, List.set_cons_zero, List.set_cons_succ]
          refine wpAnyH_take (i := 20) (v := .pointer (some ⟨gp, 0, none⟩)) rfl (by kernel_rfl) (by kernel_rfl) (by kernel_rfl) (fun _ _ _ h => h) (.inl ⟨by rfl, fun W hW => ?_⟩) hS ?_
          · clear hW; go_simp
          simp only [Act.put, List.getElem_toArray, List.getElem_cons_succ, List.getElem_cons_zero, List.setIfInBounds_toArray, List.set_cons_zero, List.set_cons_succ]
          refine wpAnyH_take (i := 21) (v := .pointer (some ⟨gp, 0, none⟩)) rfl (by kernel_rfl) (by kernel_rfl) (by kernel_rfl) (fun _ _ _ h => h) (.inl ⟨by rfl, fun W hW => ?_⟩) hS ?_
          · clear hW; go_simp
          simp only [Act.put, List.getElem_toArray, List.getElem_cons_succ, List.getElem_cons_zero, List.setIfInBounds_toArray, List.set_cons_zero, List.set_cons_succ]
          refine wpAnyH_ready (rs := [22]) (by kernel_rfl) (by simp) (AllReadyH.cons rfl (fun K hK => ?_) AllReadyH.nil)
          have HS := Lib.hid hS
          clear hS
          go_simp
          refine hK.out _ _ (HS.out.put (p := ⟨gp, 0, none⟩) (.inl rfl) _) (fun hS => ?_)
          clear HS hK K
          refine wpAnyH_take (i := 23) (v := .pointer (some ⟨gp, 0, none⟩)) rfl (by kernel_rfl) (by kernel_rfl) (by kernel_rfl) (fun _ _ _ h => h) (.inl ⟨by rfl, fun W hW => ?_⟩) hS ?_
          · clear hW; go_simp
          simp only [Act.put, List.getElem_toArray, List.getElem_cons_succ, List.getElem_cons_zero, List.setIfInBounds_toArray, List.set_cons_zero, List.set_cons_succ]
          refine wpAnyH_take (i := 24) (v := .pointer (some ⟨gp, 1, none⟩)) rfl (by kernel_rfl) (by kernel_rfl) (by kernel_rfl) (fun _ _ _ h => h) (.inl ⟨by rfl, fun W hW => ?_⟩) hS ?_
          · clear hW; go_simp
          simp only [Act.put, List.getElem_toArray, List.getElem_cons_succ, List.getElem_cons_zero, List.setIfInBounds_toArray, List.set_cons_zero, List.set_cons_succ]
          refine wpAnyH_ready (rs := [25]) (by kernel_rfl) (by simp) (AllReadyH.cons rfl (fun K hK => ?_) AllReadyH.nil)
          have HS := Lib.hid hS
          clear hS
          go_simp
          refine hK.out _ _ (HS.out.put (p := ⟨gp, 1, none⟩) (.inl rfl) _) (fun hS => ?_)
          clear HS hK K
          refine wpAnyH_take (i := 26) (v := .pointer (some ⟨gp, 0, none⟩)) rfl (by kernel_rfl) (by kernel_rfl) (by kernel_rfl) (fun _ _ _ h => h) (.inl ⟨by rfl, fun W hW => ?_⟩) hS ?_
          · clear hW; go_simp
          simp only [Act.put, List.getElem_toArray, List.getElem_cons_succ, List.getElem_cons_zero, List.setIfInBounds_toArray, List.set_cons_zero, List.set_cons_succ]
          refine wpAnyH_take (i := 27) (v := .pointer (some ⟨gp, 2, none⟩)) rfl (by kernel_rfl) (by kernel_rfl) (by kernel_rfl) (fun _ _ _ h => h) (.inl ⟨by rfl, fun W hW => ?_⟩) hS ?_
          · clear hW; go_simp
          simp only [Act.put, List.getElem_toArray, List.getElem_cons_succ, List.getElem_cons_zero, List.setIfInBounds_toArray, List.set_cons_zero, List.set_cons_succ]
          refine wpAnyH_ready (rs := [28]) (by kernel_rfl) (by simp) (AllReadyH.cons rfl (fun K hK => ?_) AllReadyH.nil)
          have HS := Lib.hid hS
          clear hS
          go_simp
          refine hK.out _ _ (HS.out.put (p := ⟨gp, 2, none⟩) (.inl rfl) _) (fun hS => ?_)
          clear HS hK K
          refine wpAnyH_take (i := 29) (v := .pointer (some ⟨gp, 0, none⟩)) rfl (by kernel_rfl) (by kernel_rfl) (by kernel_rfl) (fun _ _ _ h => h) (.inl ⟨by rfl, fun W hW => ?_⟩) hS ?_
          · clear hW; go_simp
          simp only [Act.put, List.getElem_toArray, List.getElem_cons_succ, List.getElem_cons_zero, List.setIfInBounds_toArray, List.set_cons_zero, List.set_cons_succ]
          refine wpAnyH_take (i := 30) (v := .pointer (some ⟨gp, 3, none⟩)) rfl (by kernel_rfl) (by kernel_rfl) (by kernel_rfl) (fun _ _ _ h => h) (.inl ⟨by rfl, fun W hW => ?_⟩) hS ?_
          · clear hW; go_simp
          simp only [Act.put, List.getElem_toArray, List.getElem_cons_succ, List.getElem_cons_zero, List.setIfInBounds_toArray, List.set_cons_zero, List.set_cons_succ]
          refine wpAnyH_ready (rs := [31]) (by kernel_rfl) (by simp) (AllReadyH.cons rfl (fun K hK => ?_) AllReadyH.nil)
          have HS := Lib.hid hS
          clear hS
          go_simp
          refine hK.out _ _ (HS.out.put (p := ⟨gp, 3, none⟩) (.inl rfl) _) (fun hS => ?_)
          clear HS hK K
          refine wpAnyH_take (i := 32) (v := .pointer (some ⟨gp, 0, none⟩)) rfl (by kernel_rfl) (by kernel_rfl) (by kernel_rfl) (fun _ _ _ h => h) (.inl ⟨by rfl, fun W hW => ?_⟩) hS ?_
          · clear hW; go_simp
          simp only [Act.put, List.getElem_toArray, List.getElem_cons_succ, List.getElem_cons_zero, List.setIfInBounds_toArray, List.set_cons_zero, List.set_cons_succ]
          refine wpAnyH_take (i := 33) (v := .pointer (some ⟨gp, 4, none⟩)) rfl (by kernel_rfl) (by kernel_rfl) (by kernel_rfl) (fun _ _ _ h => h) (.inl ⟨by rfl, fun W hW => ?_⟩) hS ?_
          · clear hW; go_simp
          simp only [Act.put, List.getElem_toArray, List.getElem_cons_succ, List.getElem_cons_zero, List.setIfInBounds_toArray, List.set_cons_zero, List.set_cons_succ]
          refine wpAnyH_ready (rs := [34]) (by kernel_rfl) (by simp) (AllReadyH.cons rfl (fun K hK => ?_) AllReadyH.nil)
          have HS := Lib.hid hS
          clear hS
          go_simp
          refine hK.out _ _ (HS.out.put (p := ⟨gp, 4, none⟩) (.inl rfl) _) (fun hS => ?_)
          clear HS hK K
          have HS := Lib.hid hS
          clear hS
          refine wpAnyH_done (by kernel_rfl) ?_ _
          go_wp2_with fail
          go_ret
          exact rl_yes HL.out (HR4.out.put HS.out (by rw [← HE.out]; exact (((((HR4.out.plan.drew).put 0 _).put 1 _).put 2 _).put 3 _).put 4 _) (rl_cells0 (v := v) HL.out).1)
    · have e1 : (x.toList == [112, 108, 97, 110]) = false := by
        have q := same_words x wdPlan
        rw [decide_eq_false hxw, show wdPlan.toList = [112, 108, 97, 110] by rw [ByteArray.toList_eq]; rfl] at q
        exact q
      have HF := Lib.hid (rl_no (w' := W) (gp := gp) (rl_head (p := pl) (ws := ws) (by unfold headOk; rw [hpx, decide_eq_false hxw]; rfl)) HFb.out)
      rw [h6] at i0 i1 hc ⊢
      clear h hw hs hl h0 hxw hpx h6
      go_enter Tryd.func50, Tryd.ntmps50
      go_wp2_with fail
      go_ret
      exact HF.out
  · have h6' : ((ws.length : Int) != 6) = true := by simp; omega
    have HF := Lib.hid (rl_no (w' := W) (gp := gp) (rl_head (p := pl) (ws := ws) (by unfold headOk; rw [decide_eq_false h6]; simp)) HFb.out)
    clear h hw hs hl h0 hpx h6
    go_enter Tryd.func50, Tryd.ntmps50
    go_wp2_with fail
    go_ret
    exact HF.out
end Go.Proofs.YthelnkoohbnjpaaDoor
