/- The walk of WorldOwn. -/
import Derived.Test.YtlfaogkdghnmcaaGreatOwnB
import Derived.Deep.DeepCutAuto
import Derived.Deep.RegionHeld3
set_option linter.unusedVariables false
set_option linter.unusedSimpArgs false
namespace Go.Proofs.YtlfaogkdghnmcaaGreat
open Go.RowKit
set_option maxRecDepth 100000 in
set_option maxHeartbeats 25600000 in
theorem worldOwn_walk (p : Pln) (A : Option Addr) (cap : Nat) (A1 : Option Addr) (cap1 : Nat) (l : List (List Int)) (w : World) (ht : Tide.ListIn w 17 Trg.enc (.slice A p.trigs.length cap) p.trigs) (hf : ∀ t ∈ p.trigs, t.fits) (hn : p.name.size ≤ 9223372036854775807) (hz : p.trigs.length * 120 ≤ 140737488351232)
    (hr : ∀ row ∈ l, row.length = 3 ∧ ∀ x ∈ row, -9223372036854775808 ≤ x ∧ x ≤ 9223372036854775807) (hA : RowsAt w 3 A1 l) (hl1 : l.length ≤ 9223372036854775807) :
    Calls Tryz.prog 8 #[plnV p (.slice A p.trigs.length cap), .slice A1 l.length cap1] w fun e w' => e = .returned (.bool true) ∧ Below w.heap.size w w' := by
  have hB0 := (Below.refl w.heap.size w).alloc (Nat.le_refl _) (.cells (plnC p (.slice A p.trigs.length cap)) 29)
  have HB := Lib.hid hB0
  have HX := Lib.hid (Tide.At.made w 29 (plnC p (.slice A p.trigs.length cap)))
  have HC := Lib.hid (fun (W : World) (hb : Below w.heap.size w W) => anyNew p A cap 3 2 0 W (ht.below hb (Nat.le_refl _)) hf hn (by omega))
  have HFt := Lib.hid hf; have HNm := Lib.hid hn
  have HLi := Lib.hid ht
  have HA := Lib.hid hA; have HRw := Lib.hid hr; have HZz := Lib.hid hz
  clear ht hf hn hA hr hB0
  show Calls Tryz.prog 8 #[.agg (plnC p (.slice A p.trigs.length cap)), .slice A1 l.length cap1] w _
  unfold plnC
  unfold plnC at HB HX
  go_enter Tryz.func8, Tryz.ntmps8
  go_upto_region 1 with fail
  generalize hW0 : w.alloc (.cells (plnC p (.slice A p.trigs.length cap)) 29) = W0 at HB HX ⊢
  clear hW0
  go_wp2_with fail
  refine (keepWorks _).mono ?_
  rintro e w1 ⟨rfl, hb1⟩
  have HB1 := Lib.hid (HB.out.trans (hb1.mono HB.out.size))
  have HX1 := Lib.hid (HX.out.below hb1 HX.out.inside)
  clear hb1 HX HB
  have HZ := Lib.hid (Tide.At.made w1 29 #[.string ⟨#[]⟩, .int .i64 0, .int .i64 0, .int .i64 0, .int .i64 0, .int .i64 0, .int .i64 0, .int .i64 0, .int .i64 0, .int .i64 0, .int .i64 0, .int .i64 0, .int .i64 0, .int .i64 0, .int .i64 0, .int .i64 0, .int .i64 0, .slice none 0 0])
  go_upto_region 4 with (first | refine wpList_load_row rfl 29 (.tmp 2) rfl w.heap.size rfl 29 _ (0, 0) _ HX1.out Tryz.underlying29 rfl (by kernel_rfl) ?_ | refine wpList_store_row rfl 29 (.tmp 5) (.tmp 14) rfl w1.heap.size (plnC p (.slice A p.trigs.length cap)) rfl rfl 29 #[.string ⟨#[]⟩, .int .i64 0, .int .i64 0, .int .i64 0, .int .i64 0, .int .i64 0, .int .i64 0, .int .i64 0, .int .i64 0, .int .i64 0, .int .i64 0, .int .i64 0, .int .i64 0, .int .i64 0, .int .i64 0, .int .i64 0, .int .i64 0, .slice none 0 0] HZ.out (by kernel_rfl) rfl (by kernel_rfl) ?_)
  have hwp : w.heap.size < w1.heap.size := HX1.out.inside
  have HS4 := Lib.hid (show OwnS w.heap.size w1.heap.size (plnC p (.slice A p.trigs.length cap)) (plnC p) ((w1.alloc (.cells #[.string ⟨#[]⟩, .int .i64 0, .int .i64 0, .int .i64 0, .int .i64 0, .int .i64 0, .int .i64 0, .int .i64 0, .int .i64 0, .int .i64 0, .int .i64 0, .int .i64 0, .int .i64 0, .int .i64 0, .int .i64 0, .int .i64 0, .int .i64 0, .slice none 0 0] 29)).setRow w1.heap.size (plnC p (.slice A p.trigs.length cap))) from
    ⟨(HX1.out.alloc (.cells #[.string ⟨#[]⟩, .int .i64 0, .int .i64 0, .int .i64 0, .int .i64 0, .int .i64 0, .int .i64 0, .int .i64 0, .int .i64 0, .int .i64 0, .int .i64 0, .int .i64 0, .int .i64 0, .int .i64 0, .int .i64 0, .int .i64 0, .int .i64 0, .slice none 0 0] 29)).row_other (k := w1.heap.size) (by omega) (plnC p (.slice A p.trigs.length cap)), _, HZ.out.row_set (plnC p (.slice A p.trigs.length cap))⟩)
  have HB4 := Lib.hid ((HB1.out.alloc HB1.out.size (.cells #[.string ⟨#[]⟩, .int .i64 0, .int .i64 0, .int .i64 0, .int .i64 0, .int .i64 0, .int .i64 0, .int .i64 0, .int .i64 0, .int .i64 0, .int .i64 0, .int .i64 0, .int .i64 0, .int .i64 0, .int .i64 0, .int .i64 0, .int .i64 0, .slice none 0 0] 29)).setRow HB1.out.size (plnC p (.slice A p.trigs.length cap)))
  have HSz := Lib.hid (show w1.heap.size < ((w1.alloc (.cells #[.string ⟨#[]⟩, .int .i64 0, .int .i64 0, .int .i64 0, .int .i64 0, .int .i64 0, .int .i64 0, .int .i64 0, .int .i64 0, .int .i64 0, .int .i64 0, .int .i64 0, .int .i64 0, .int .i64 0, .int .i64 0, .int .i64 0, .int .i64 0, .slice none 0 0] 29)).setRow w1.heap.size (plnC p (.slice A p.trigs.length cap))).heap.size by rw [setRow_size]; simp)
  generalize (w1.alloc (.cells #[.string ⟨#[]⟩, .int .i64 0, .int .i64 0, .int .i64 0, .int .i64 0, .int .i64 0, .int .i64 0, .int .i64 0, .int .i64 0, .int .i64 0, .int .i64 0, .int .i64 0, .int .i64 0, .int .i64 0, .int .i64 0, .int .i64 0, .int .i64 0, .slice none 0 0] 29)).setRow w1.heap.size (plnC p (.slice A p.trigs.length cap)) = W4 at HS4 HB4 HSz ⊢
  obtain ⟨P1, hP1⟩ : ∃ P1, w1.heap.size = P1 := ⟨_, rfl⟩
  have HBw := Lib.hid (show w.heap.size ≤ w1.heap.size from HB1.out.size)
  rw [hP1] at HS4 HSz hwp HBw ⊢
  clear HZ HX1 HB1 hP1
  go_frame
  go_cut [] (fun wx => Hid (∃ g c, OwnIn w wx w.heap.size P1 (plnC p (.slice A p.trigs.length cap)) (plnC p) p.trigs.length (p.trigs.flatMap Trg.enc) g c))
  case first =>
      obtain ⟨B, hBB⟩ : ∃ B, W4.heap.size = B := ⟨_, rfl⟩
      obtain ⟨i0, hi, hz0, hz1, hz2⟩ := info_parts trg_info
      have HFl := Lib.hid (Tide.flat_length Trg.enc_length p.trigs)
      have hm := HZz.out
      have h9 : maxLen = 9223372036854775807 := rfl
      have HM1 := Lib.hid (show i0.bytes * (p.trigs.length + 2) ≤ 281474976710656 by rw [hz2]; omega)
      have HM2 := Lib.hid (show p.trigs.length + 2 ≤ maxLen by omega)
      have HM3 := Lib.hid (show p.trigs.length ≤ maxLen by omega)
      have HM4 := Lib.hid (show p.trigs.length * 120 ≤ 140737488355328 by omega)
      have HM5 := Lib.hid (show p.trigs.length + 1 ≤ maxLen by omega)
      have HM6 := Lib.hid (show (p.trigs.length + 1) * 120 ≤ 140737488355328 by omega)
      have hBP : P1 < B := by rw [← hBB]; exact HSz.out
      have hP01 : w.heap.size ≠ P1 := by omega
      have hPw := HBw.out
      have hq2 : IntKind.i64.wrap ((p.trigs.length : Int) + 2) = ((p.trigs.length + 2 : Nat) : Int) := by rw [IntWalk.i64_in _ (by omega)]; rfl
      have hn0 : (0 : Int) ≤ (p.trigs.length : Int) := by omega
      subst hBB
      clear hm
      go_wp2_with fail
      refine wp_region_held_drew (S := OwnS w.heap.size P1 (plnC p (.slice A p.trigs.length cap)) (plnC p)) (by kernel_rfl) HS4.out (fun hS => ?_)
      change wpAnyH _ _ _ _ _ 17 #[false, false, false, false, false, false, false, false, false, false, false, false, false, false, false, false, false] _ (World.drew _)
      refine wpAnyH_take (i := 0) (v := .pointer (some ⟨w.heap.size, 17, none⟩)) rfl (by kernel_rfl) (by kernel_rfl) (by kernel_rfl) (fun _ _ _ h => h) (.inl ⟨by rfl, fun W hW => ?_⟩) hS ?_
      · clear hW; go_simp
      simp only [Act.put, List.getElem_toArray, List.getElem_cons_succ, List.getElem_cons_zero, List.setIfInBounds_toArray, List.set_cons_zero, List.set_cons_succ]
      refine wpAnyH_take (i := 1) (v := .slice A p.trigs.length cap) rfl (by kernel_rfl) (by kernel_rfl) (by kernel_rfl) (fun _ _ _ h => h) (.inl ⟨by rfl, fun W hW => ?_⟩) hS ?_
      · have z17 := hW.1.here (i := 17) (v := .slice A p.trigs.length cap) rfl; clear hW; go_simp
      simp only [Act.put, List.getElem_toArray, List.getElem_cons_succ, List.getElem_cons_zero, List.setIfInBounds_toArray, List.set_cons_zero, List.set_cons_succ]
      refine wpAnyH_take (i := 2) (v := .int .i64 (p.trigs.length : Int)) rfl (by kernel_rfl) (by kernel_rfl) (by kernel_rfl) (fun _ _ _ h => h) (.inl ⟨by rfl, fun W hW => ?_⟩) hS ?_
      · clear hW; go_simp
      simp only [Act.put, List.getElem_toArray, List.getElem_cons_succ, List.getElem_cons_zero, List.setIfInBounds_toArray, List.set_cons_zero, List.set_cons_succ]
      refine wpAnyH_take (i := 3) (v := .int .i64 ((p.trigs.length + 2 : Nat) : Int)) rfl (by kernel_rfl) (by kernel_rfl) (by kernel_rfl) (fun _ _ _ h => h) (.inl ⟨by rfl, fun W hW => ?_⟩) hS ?_
      · clear hW; go_simp
      simp only [Act.put, List.getElem_toArray, List.getElem_cons_succ, List.getElem_cons_zero, List.setIfInBounds_toArray, List.set_cons_zero, List.set_cons_succ]
      refine wpAnyH_take (i := 5) (v := .pointer (some ⟨w.heap.size, 17, none⟩)) rfl (by kernel_rfl) (by kernel_rfl) (by kernel_rfl) (fun _ _ _ h => h) (.inl ⟨by rfl, fun W hW => ?_⟩) hS ?_
      · clear hW; go_simp
      simp only [Act.put, List.getElem_toArray, List.getElem_cons_succ, List.getElem_cons_zero, List.setIfInBounds_toArray, List.set_cons_zero, List.set_cons_succ]
      refine wpAnyH_take (i := 6) (v := .slice A p.trigs.length cap) rfl (by kernel_rfl) (by kernel_rfl) (by kernel_rfl) (fun _ _ _ h => h) (.inl ⟨by rfl, fun W hW => ?_⟩) hS ?_
      · have z17 := hW.1.here (i := 17) (v := .slice A p.trigs.length cap) rfl; clear hW; go_simp
      simp only [Act.put, List.getElem_toArray, List.getElem_cons_succ, List.getElem_cons_zero, List.setIfInBounds_toArray, List.set_cons_zero, List.set_cons_succ]
      refine wpAnyH_take (i := 8) (v := .agg T9C) rfl (by kernel_rfl) (by kernel_rfl) (by kernel_rfl) (fun _ _ _ h => h) (.inl ⟨by rfl, fun W hW => ?_⟩) hS ?_
      · exact exec_build rfl rfl t9_built
      simp only [Act.put, List.getElem_toArray, List.getElem_cons_succ, List.getElem_cons_zero, List.setIfInBounds_toArray, List.set_cons_zero, List.set_cons_succ]
      refine wpAnyH_take (i := 11) (v := .pointer (some ⟨w.heap.size, 17, none⟩)) rfl (by kernel_rfl) (by kernel_rfl) (by kernel_rfl) (fun _ _ _ h => h) (.inl ⟨by rfl, fun W hW => ?_⟩) hS ?_
      · clear hW; go_simp
      simp only [Act.put, List.getElem_toArray, List.getElem_cons_succ, List.getElem_cons_zero, List.setIfInBounds_toArray, List.set_cons_zero, List.set_cons_succ]
      refine wpAnyH_take (i := 12) (v := .slice A p.trigs.length cap) rfl (by kernel_rfl) (by kernel_rfl) (by kernel_rfl) (fun _ _ _ h => h) (.inl ⟨by rfl, fun W hW => ?_⟩) hS ?_
      · have z17 := hW.1.here (i := 17) (v := .slice A p.trigs.length cap) rfl; clear hW; go_simp
      simp only [Act.put, List.getElem_toArray, List.getElem_cons_succ, List.getElem_cons_zero, List.setIfInBounds_toArray, List.set_cons_zero, List.set_cons_succ]
      refine wpAnyH_take (i := 13) (v := .int .i64 (p.trigs.length : Int)) rfl (by kernel_rfl) (by kernel_rfl) (by kernel_rfl) (fun _ _ _ h => h) (.inl ⟨by rfl, fun W hW => ?_⟩) hS ?_
      · clear hW; go_simp
      simp only [Act.put, List.getElem_toArray, List.getElem_cons_succ, List.getElem_cons_zero, List.setIfInBounds_toArray, List.set_cons_zero, List.set_cons_succ]
      have hb4 : Below w.heap.size w W4.drew := HB4.out.drew
      have hB4 : W4.heap.size ≤ W4.drew.heap.size := Nat.le_refl _
      refine wpAnyH_ready (rs := [4, 9]) (by kernel_rfl) (by simp) (AllReadyH.cons rfl (fun K hK => ?_) (AllReadyH.cons rfl (fun K hK => ?_) (AllReadyH.nil)))
      · have _ := hb4
        refine step_make rfl 27 37 _ _ rfl (p.trigs.length + 2) rfl rfl i0 (.agg #[.int .i64 0, .int .i64 0, .int .i64 0, .int .u64 0, .int .u64 0, .int .u64 0, .int .u64 0, .int .u64 0, .bool false, .bool false, .int .u64 0, .int .u64 0, .int .u64 0, .int .u64 0, .int .u64 0, .bool false, .bool false]) Tryz.underlying27 hi hz0 W4.heap.size 17 hz1 HM1.out HM2.out hB4 ?_
        intro w4a roww4a grw4a
        have hSw4a := hS.grown grw4a (by simp) (by simp)
        have hbw4a : Below w.heap.size w w4a := hb4.grown grw4a hb4.size (fun g e => by cases e)
        have hBw4a : W4.heap.size ≤ w4a.heap.size := Nat.le_trans hB4 grw4a.size
        refine hK.out _ _ hSw4a (fun hh => ?_)
        clear hh hK K
        simp only [Act.put, List.getElem_toArray, List.getElem_cons_succ, List.getElem_cons_zero, List.setIfInBounds_toArray, List.set_cons_zero, List.set_cons_succ]
        refine wpAnyH_ready (rs := [7, 9]) (by kernel_rfl) (by simp) (AllReadyH.cons rfl (fun K hK => ?_) (AllReadyH.cons rfl (fun K hK => ?_) (AllReadyH.nil)))
        · have _ := hb4
          refine step_append_any rfl (.tmp 19) (.tmp 21) 27 rfl W4.heap.size 37 i0 (.agg #[.int .i64 0, .int .i64 0, .int .i64 0, .int .u64 0, .int .u64 0, .int .u64 0, .int .u64 0, .int .u64 0, .bool false, .bool false, .int .u64 0, .int .u64 0, .int .u64 0, .int .u64 0, .int .u64 0, .bool false, .bool false]) 17 120 Tryz.underlying27 hi hz0 hz1 hz2 rfl (by decide) _ _ 0 [] rfl roww4a A p.trigs.length cap (p.trigs.flatMap Trg.enc) rfl HFl.out (own_news (HLi.out.below hbw4a (Nat.le_refl _))).1 (own_news (HLi.out.below hbw4a (Nat.le_refl _))).2 trg_one p.trigs.length (Nat.zero_add _) _ (List.nil_append _) HM3.out HM4.out hBw4a ?_
          intro gw7b cw7b w7b roww7b grw7b eqw7b ltw7b
          have hSw7b := hSw4a.grown grw7b (fun e => by simp only [Option.some.injEq] at e; have := (World.ownsRow.lt roww4a _ rfl).1; omega) (fun e => by simp only [Option.some.injEq] at e; have := (World.ownsRow.lt roww4a _ rfl).1; omega)
          have hbw7b : Below w.heap.size w w7b := hbw4a.grown grw7b hbw4a.size (fun g e => by simp only [Option.some.injEq] at e; have := (World.ownsRow.lt roww4a _ rfl).1; omega)
          have hBw7b : W4.heap.size ≤ w7b.heap.size := Nat.le_trans hBw4a grw7b.size
          refine hK.out _ _ hSw7b (fun hh => ?_)
          clear hh hK K
          simp only [Act.put, List.getElem_toArray, List.getElem_cons_succ, List.getElem_cons_zero, List.setIfInBounds_toArray, List.set_cons_zero, List.set_cons_succ]
          refine wpAnyH_ready (rs := [9]) (by kernel_rfl) (by simp) (AllReadyH.cons rfl (fun K hK => ?_) (AllReadyH.nil))
          refine step_bslice rfl 27 37 1 _ rfl [(0, .agg T9C)] rfl T9C i0 (.agg #[.int .i64 0, .int .i64 0, .int .i64 0, .int .u64 0, .int .u64 0, .int .u64 0, .int .u64 0, .int .u64 0, .bool false, .bool false, .int .u64 0, .int .u64 0, .int .u64 0, .int .u64 0, .int .u64 0, .bool false, .bool false]) Tryz.underlying27 hi hz0 (by rw [hz1]; decide) (by rw [hz1]; decide) (by rw [hz1]; exact t9_fill) ?_
          intro w9b atw9b grw9b
          have new9b : gw7b ≠ w7b.heap.size := Nat.ne_of_lt (World.ownsRow.lt roww7b _ rfl).2
          have roww9b := own_kept roww7b grw9b
          have hSw9b := hSw7b.grown grw9b (by simp) (by simp)
          have hbw9b : Below w.heap.size w w9b := hbw7b.grown grw9b hbw7b.size (fun g e => by cases e)
          have hBw9b : W4.heap.size ≤ w9b.heap.size := Nat.le_trans hBw7b grw9b.size
          refine hK.out _ _ hSw9b (fun hh => ?_)
          clear hh hK K
          simp only [Act.put, List.getElem_toArray, List.getElem_cons_succ, List.getElem_cons_zero, List.setIfInBounds_toArray, List.set_cons_zero, List.set_cons_succ]
          refine wpAnyH_ready (rs := [10]) (by kernel_rfl) (by simp) (AllReadyH.cons rfl (fun K hK => ?_) (AllReadyH.nil))
          refine step_append_any rfl (.tmp 22) (.tmp 24) 27 rfl W4.heap.size 37 i0 (.agg #[.int .i64 0, .int .i64 0, .int .i64 0, .int .u64 0, .int .u64 0, .int .u64 0, .int .u64 0, .int .u64 0, .bool false, .bool false, .int .u64 0, .int .u64 0, .int .u64 0, .int .u64 0, .int .u64 0, .bool false, .bool false]) 17 120 Tryz.underlying27 hi hz0 hz1 hz2 rfl (by decide) _ _ p.trigs.length (p.trigs.flatMap Trg.enc) rfl roww9b (some ⟨w7b.heap.size, 0, none⟩) 1 1 T9C.toList rfl rfl (fun e => by cases e) (fun ad e j u hu => by cases e; exact World.news_of_block atw9b j u hu) t9_one (p.trigs.length + 1) rfl _ rfl HM5.out HM6.out hBw9b ?_
          intro gw10b cw10b w10b roww10b grw10b eqw10b ltw10b
          have hSw10b := hSw9b.grown grw10b (fun e => by simp only [Option.some.injEq] at e; have := (World.ownsRow.lt roww9b _ rfl).1; omega) (fun e => by simp only [Option.some.injEq] at e; have := (World.ownsRow.lt roww9b _ rfl).1; omega)
          have hbw10b : Below w.heap.size w w10b := hbw9b.grown grw10b hbw9b.size (fun g e => by simp only [Option.some.injEq] at e; have := (World.ownsRow.lt roww9b _ rfl).1; omega)
          have hBw10b : W4.heap.size ≤ w10b.heap.size := Nat.le_trans hBw9b grw10b.size
          refine hK.out _ _ hSw10b (fun hh => ?_)
          clear hh hK K
          simp only [Act.put, List.getElem_toArray, List.getElem_cons_succ, List.getElem_cons_zero, List.setIfInBounds_toArray, List.set_cons_zero, List.set_cons_succ]
          have hle : p.trigs.length + 1 ≤ cw10b := by obtain ⟨_, cc, e, h1, _⟩ := (Tide.OwnRow.of_owns (S := fun _ => True) roww10b (fun _ _ => trivial)).slice; cases e; exact h1
          have hle2 : (p.trigs.length : Int) ≤ (cw10b : Int) := by omega
          have hle3 : p.trigs.length ≤ cw10b := by omega
          refine wpAnyH_take (i := 14) (v := .slice (some ⟨gw10b, 0, none⟩) p.trigs.length cw10b) rfl (by kernel_rfl) (by kernel_rfl) (by kernel_rfl) (fun _ _ _ h => h) (.inl ⟨by rfl, fun W hW => ?_⟩) hSw10b ?_
          · clear hW; go_simp
          simp only [Act.put, List.getElem_toArray, List.getElem_cons_succ, List.getElem_cons_zero, List.setIfInBounds_toArray, List.set_cons_zero, List.set_cons_succ]
          refine wpAnyH_take (i := 15) (v := .pointer (some ⟨P1, 17, none⟩)) rfl (by kernel_rfl) (by kernel_rfl) (by kernel_rfl) (fun _ _ _ h => h) (.inl ⟨by rfl, fun W hW => ?_⟩) hSw10b ?_
          · clear hW; go_simp
          simp only [Act.put, List.getElem_toArray, List.getElem_cons_succ, List.getElem_cons_zero, List.setIfInBounds_toArray, List.set_cons_zero, List.set_cons_succ]
          refine wpAnyH_ready (rs := [16]) (by kernel_rfl) (by simp) (AllReadyH.cons rfl (fun K hK => ?_) (AllReadyH.nil))
          obtain ⟨hx0, u, hx1⟩ := hSw10b
          have x17 := hx1.here (i := 17) (v := u) rfl; have p17 := hx1.soft 17
          have hE := own_end roww10b hbw10b hx0 hx1 hBP hP01 hPw
          go_simp
          refine hK.out _ _ ⟨hE.box, _, hE.inn⟩ (fun hh => ?_)
          clear hh hK K x17 p17
          refine wpAnyH_done (by kernel_rfl) ?_ _
          go_wp2_with fail
          go_meet
          exact Lib.hid ⟨_, _, hE⟩
        · have _ := hb4
          refine step_bslice rfl 27 37 1 _ rfl [(0, .agg T9C)] rfl T9C i0 (.agg #[.int .i64 0, .int .i64 0, .int .i64 0, .int .u64 0, .int .u64 0, .int .u64 0, .int .u64 0, .int .u64 0, .bool false, .bool false, .int .u64 0, .int .u64 0, .int .u64 0, .int .u64 0, .int .u64 0, .bool false, .bool false]) Tryz.underlying27 hi hz0 (by rw [hz1]; decide) (by rw [hz1]; decide) (by rw [hz1]; exact t9_fill) ?_
          intro w9c atw9c grw9c
          have new9c : W4.drew.heap.size ≠ w4a.heap.size := Nat.ne_of_lt (World.ownsRow.lt roww4a _ rfl).2
          have roww9c := own_kept roww4a grw9c
          have hSw9c := hSw4a.grown grw9c (by simp) (by simp)
          have hbw9c : Below w.heap.size w w9c := hbw4a.grown grw9c hbw4a.size (fun g e => by cases e)
          have hBw9c : W4.heap.size ≤ w9c.heap.size := Nat.le_trans hBw4a grw9c.size
          refine hK.out _ _ hSw9c (fun hh => ?_)
          clear hh hK K
          simp only [Act.put, List.getElem_toArray, List.getElem_cons_succ, List.getElem_cons_zero, List.setIfInBounds_toArray, List.set_cons_zero, List.set_cons_succ]
          refine wpAnyH_ready (rs := [7]) (by kernel_rfl) (by simp) (AllReadyH.cons rfl (fun K hK => ?_) (AllReadyH.nil))
          refine step_append_any rfl (.tmp 19) (.tmp 21) 27 rfl W4.heap.size 37 i0 (.agg #[.int .i64 0, .int .i64 0, .int .i64 0, .int .u64 0, .int .u64 0, .int .u64 0, .int .u64 0, .int .u64 0, .bool false, .bool false, .int .u64 0, .int .u64 0, .int .u64 0, .int .u64 0, .int .u64 0, .bool false, .bool false]) 17 120 Tryz.underlying27 hi hz0 hz1 hz2 rfl (by decide) _ _ 0 [] rfl roww9c A p.trigs.length cap (p.trigs.flatMap Trg.enc) rfl HFl.out (own_news (HLi.out.below hbw9c (Nat.le_refl _))).1 (own_news (HLi.out.below hbw9c (Nat.le_refl _))).2 trg_one p.trigs.length (Nat.zero_add _) _ (List.nil_append _) HM3.out HM4.out hBw9c ?_
          intro gw7c cw7c w7c roww7c grw7c eqw7c ltw7c
          have atw7c := atw9c.grown grw7c (fun e => by simp only [Option.some.injEq] at e; exact new9c e)
          have hSw7c := hSw9c.grown grw7c (fun e => by simp only [Option.some.injEq] at e; have := (World.ownsRow.lt roww9c _ rfl).1; omega) (fun e => by simp only [Option.some.injEq] at e; have := (World.ownsRow.lt roww9c _ rfl).1; omega)
          have hbw7c : Below w.heap.size w w7c := hbw9c.grown grw7c hbw9c.size (fun g e => by simp only [Option.some.injEq] at e; have := (World.ownsRow.lt roww9c _ rfl).1; omega)
          have hBw7c : W4.heap.size ≤ w7c.heap.size := Nat.le_trans hBw9c grw7c.size
          refine hK.out _ _ hSw7c (fun hh => ?_)
          clear hh hK K
          simp only [Act.put, List.getElem_toArray, List.getElem_cons_succ, List.getElem_cons_zero, List.setIfInBounds_toArray, List.set_cons_zero, List.set_cons_succ]
          refine wpAnyH_ready (rs := [10]) (by kernel_rfl) (by simp) (AllReadyH.cons rfl (fun K hK => ?_) (AllReadyH.nil))
          refine step_append_any rfl (.tmp 22) (.tmp 24) 27 rfl W4.heap.size 37 i0 (.agg #[.int .i64 0, .int .i64 0, .int .i64 0, .int .u64 0, .int .u64 0, .int .u64 0, .int .u64 0, .int .u64 0, .bool false, .bool false, .int .u64 0, .int .u64 0, .int .u64 0, .int .u64 0, .int .u64 0, .bool false, .bool false]) 17 120 Tryz.underlying27 hi hz0 hz1 hz2 rfl (by decide) _ _ p.trigs.length (p.trigs.flatMap Trg.enc) rfl roww7c (some ⟨w4a.heap.size, 0, none⟩) 1 1 T9C.toList rfl rfl (fun e => by cases e) (fun ad e j u hu => by cases e; exact World.news_of_block atw7c j u hu) t9_one (p.trigs.length + 1) rfl _ rfl HM5.out HM6.out hBw7c ?_
          intro gw10c cw10c w10c roww10c grw10c eqw10c ltw10c
          have hSw10c := hSw7c.grown grw10c (fun e => by simp only [Option.some.injEq] at e; have := (World.ownsRow.lt roww7c _ rfl).1; omega) (fun e => by simp only [Option.some.injEq] at e; have := (World.ownsRow.lt roww7c _ rfl).1; omega)
          have hbw10c : Below w.heap.size w w10c := hbw7c.grown grw10c hbw7c.size (fun g e => by simp only [Option.some.injEq] at e; have := (World.ownsRow.lt roww7c _ rfl).1; omega)
          have hBw10c : W4.heap.size ≤ w10c.heap.size := Nat.le_trans hBw7c grw10c.size
          refine hK.out _ _ hSw10c (fun hh => ?_)
          clear hh hK K
          simp only [Act.put, List.getElem_toArray, List.getElem_cons_succ, List.getElem_cons_zero, List.setIfInBounds_toArray, List.set_cons_zero, List.set_cons_succ]
          have hle : p.trigs.length + 1 ≤ cw10c := by obtain ⟨_, cc, e, h1, _⟩ := (Tide.OwnRow.of_owns (S := fun _ => True) roww10c (fun _ _ => trivial)).slice; cases e; exact h1
          have hle2 : (p.trigs.length : Int) ≤ (cw10c : Int) := by omega
          have hle3 : p.trigs.length ≤ cw10c := by omega
          refine wpAnyH_take (i := 14) (v := .slice (some ⟨gw10c, 0, none⟩) p.trigs.length cw10c) rfl (by kernel_rfl) (by kernel_rfl) (by kernel_rfl) (fun _ _ _ h => h) (.inl ⟨by rfl, fun W hW => ?_⟩) hSw10c ?_
          · clear hW; go_simp
          simp only [Act.put, List.getElem_toArray, List.getElem_cons_succ, List.getElem_cons_zero, List.setIfInBounds_toArray, List.set_cons_zero, List.set_cons_succ]
          refine wpAnyH_take (i := 15) (v := .pointer (some ⟨P1, 17, none⟩)) rfl (by kernel_rfl) (by kernel_rfl) (by kernel_rfl) (fun _ _ _ h => h) (.inl ⟨by rfl, fun W hW => ?_⟩) hSw10c ?_
          · clear hW; go_simp
          simp only [Act.put, List.getElem_toArray, List.getElem_cons_succ, List.getElem_cons_zero, List.setIfInBounds_toArray, List.set_cons_zero, List.set_cons_succ]
          refine wpAnyH_ready (rs := [16]) (by kernel_rfl) (by simp) (AllReadyH.cons rfl (fun K hK => ?_) (AllReadyH.nil))
          obtain ⟨hx0, u, hx1⟩ := hSw10c
          have x17 := hx1.here (i := 17) (v := u) rfl; have p17 := hx1.soft 17
          have hE := own_end roww10c hbw10c hx0 hx1 hBP hP01 hPw
          go_simp
          refine hK.out _ _ ⟨hE.box, _, hE.inn⟩ (fun hh => ?_)
          clear hh hK K x17 p17
          refine wpAnyH_done (by kernel_rfl) ?_ _
          go_wp2_with fail
          go_meet
          exact Lib.hid ⟨_, _, hE⟩
      · have _ := hb4
        refine step_bslice rfl 27 37 1 _ rfl [(0, .agg T9C)] rfl T9C i0 (.agg #[.int .i64 0, .int .i64 0, .int .i64 0, .int .u64 0, .int .u64 0, .int .u64 0, .int .u64 0, .int .u64 0, .bool false, .bool false, .int .u64 0, .int .u64 0, .int .u64 0, .int .u64 0, .int .u64 0, .bool false, .bool false]) Tryz.underlying27 hi hz0 (by rw [hz1]; decide) (by rw [hz1]; decide) (by rw [hz1]; exact t9_fill) ?_
        intro w9d atw9d grw9d
        have hSw9d := hS.grown grw9d (by simp) (by simp)
        have hbw9d : Below w.heap.size w w9d := hb4.grown grw9d hb4.size (fun g e => by cases e)
        have hBw9d : W4.heap.size ≤ w9d.heap.size := Nat.le_trans hB4 grw9d.size
        refine hK.out _ _ hSw9d (fun hh => ?_)
        clear hh hK K
        simp only [Act.put, List.getElem_toArray, List.getElem_cons_succ, List.getElem_cons_zero, List.setIfInBounds_toArray, List.set_cons_zero, List.set_cons_succ]
        refine wpAnyH_ready (rs := [4]) (by kernel_rfl) (by simp) (AllReadyH.cons rfl (fun K hK => ?_) (AllReadyH.nil))
        refine step_make rfl 27 37 _ _ rfl (p.trigs.length + 2) rfl rfl i0 (.agg #[.int .i64 0, .int .i64 0, .int .i64 0, .int .u64 0, .int .u64 0, .int .u64 0, .int .u64 0, .int .u64 0, .bool false, .bool false, .int .u64 0, .int .u64 0, .int .u64 0, .int .u64 0, .int .u64 0, .bool false, .bool false]) Tryz.underlying27 hi hz0 W4.heap.size 17 hz1 HM1.out HM2.out hBw9d ?_
        intro w4d roww4d grw4d
        have new4d : w9d.heap.size ≠ W4.drew.heap.size := by have := atw9d.inside; omega
        have atw4d := atw9d.grown grw4d (by simp)
        have hSw4d := hSw9d.grown grw4d (by simp) (by simp)
        have hbw4d : Below w.heap.size w w4d := hbw9d.grown grw4d hbw9d.size (fun g e => by cases e)
        have hBw4d : W4.heap.size ≤ w4d.heap.size := Nat.le_trans hBw9d grw4d.size
        refine hK.out _ _ hSw4d (fun hh => ?_)
        clear hh hK K
        simp only [Act.put, List.getElem_toArray, List.getElem_cons_succ, List.getElem_cons_zero, List.setIfInBounds_toArray, List.set_cons_zero, List.set_cons_succ]
        refine wpAnyH_ready (rs := [7]) (by kernel_rfl) (by simp) (AllReadyH.cons rfl (fun K hK => ?_) (AllReadyH.nil))
        refine step_append_any rfl (.tmp 19) (.tmp 21) 27 rfl W4.heap.size 37 i0 (.agg #[.int .i64 0, .int .i64 0, .int .i64 0, .int .u64 0, .int .u64 0, .int .u64 0, .int .u64 0, .int .u64 0, .bool false, .bool false, .int .u64 0, .int .u64 0, .int .u64 0, .int .u64 0, .int .u64 0, .bool false, .bool false]) 17 120 Tryz.underlying27 hi hz0 hz1 hz2 rfl (by decide) _ _ 0 [] rfl roww4d A p.trigs.length cap (p.trigs.flatMap Trg.enc) rfl HFl.out (own_news (HLi.out.below hbw4d (Nat.le_refl _))).1 (own_news (HLi.out.below hbw4d (Nat.le_refl _))).2 trg_one p.trigs.length (Nat.zero_add _) _ (List.nil_append _) HM3.out HM4.out hBw4d ?_
        intro gw7d cw7d w7d roww7d grw7d eqw7d ltw7d
        have atw7d := atw4d.grown grw7d (fun e => by simp only [Option.some.injEq] at e; exact new4d e)
        have hSw7d := hSw4d.grown grw7d (fun e => by simp only [Option.some.injEq] at e; have := (World.ownsRow.lt roww4d _ rfl).1; omega) (fun e => by simp only [Option.some.injEq] at e; have := (World.ownsRow.lt roww4d _ rfl).1; omega)
        have hbw7d : Below w.heap.size w w7d := hbw4d.grown grw7d hbw4d.size (fun g e => by simp only [Option.some.injEq] at e; have := (World.ownsRow.lt roww4d _ rfl).1; omega)
        have hBw7d : W4.heap.size ≤ w7d.heap.size := Nat.le_trans hBw4d grw7d.size
        refine hK.out _ _ hSw7d (fun hh => ?_)
        clear hh hK K
        simp only [Act.put, List.getElem_toArray, List.getElem_cons_succ, List.getElem_cons_zero, List.setIfInBounds_toArray, List.set_cons_zero, List.set_cons_succ]
        refine wpAnyH_ready (rs := [10]) (by kernel_rfl) (by simp) (AllReadyH.cons rfl (fun K hK => ?_) (AllReadyH.nil))
        refine step_append_any rfl (.tmp 22) (.tmp 24) 27 rfl W4.heap.size 37 i0 (.agg #[.int .i64 0, .int .i64 0, .int .i64 0, .int .u64 0, .int .u64 0, .int .u64 0, .int .u64 0, .int .u64 0, .bool false, .bool false, .int .u64 0, .int .u64 0, .int .u64 0, .int .u64 0, .int .u64 0, .bool false, .bool false]) 17 120 Tryz.underlying27 hi hz0 hz1 hz2 rfl (by decide) _ _ p.trigs.length (p.trigs.flatMap Trg.enc) rfl roww7d (some ⟨W4.drew.heap.size, 0, none⟩) 1 1 T9C.toList rfl rfl (fun e => by cases e) (fun ad e j u hu => by cases e; exact World.news_of_block atw7d j u hu) t9_one (p.trigs.length + 1) rfl _ rfl HM5.out HM6.out hBw7d ?_
        intro gw10d cw10d w10d roww10d grw10d eqw10d ltw10d
        have hSw10d := hSw7d.grown grw10d (fun e => by simp only [Option.some.injEq] at e; have := (World.ownsRow.lt roww7d _ rfl).1; omega) (fun e => by simp only [Option.some.injEq] at e; have := (World.ownsRow.lt roww7d _ rfl).1; omega)
        have hbw10d : Below w.heap.size w w10d := hbw7d.grown grw10d hbw7d.size (fun g e => by simp only [Option.some.injEq] at e; have := (World.ownsRow.lt roww7d _ rfl).1; omega)
        have hBw10d : W4.heap.size ≤ w10d.heap.size := Nat.le_trans hBw7d grw10d.size
        refine hK.out _ _ hSw10d (fun hh => ?_)
        clear hh hK K
        simp only [Act.put, List.getElem_toArray, List.getElem_cons_succ, List.getElem_cons_zero, List.setIfInBounds_toArray, List.set_cons_zero, List.set_cons_succ]
        have hle : p.trigs.length + 1 ≤ cw10d := by obtain ⟨_, cc, e, h1, _⟩ := (Tide.OwnRow.of_owns (S := fun _ => True) roww10d (fun _ _ => trivial)).slice; cases e; exact h1
        have hle2 : (p.trigs.length : Int) ≤ (cw10d : Int) := by omega
        have hle3 : p.trigs.length ≤ cw10d := by omega
        refine wpAnyH_take (i := 14) (v := .slice (some ⟨gw10d, 0, none⟩) p.trigs.length cw10d) rfl (by kernel_rfl) (by kernel_rfl) (by kernel_rfl) (fun _ _ _ h => h) (.inl ⟨by rfl, fun W hW => ?_⟩) hSw10d ?_
        · clear hW; go_simp
        simp only [Act.put, List.getElem_toArray, List.getElem_cons_succ, List.getElem_cons_zero, List.setIfInBounds_toArray, List.set_cons_zero, List.set_cons_succ]
        refine wpAnyH_take (i := 15) (v := .pointer (some ⟨P1, 17, none⟩)) rfl (by kernel_rfl) (by kernel_rfl) (by kernel_rfl) (fun _ _ _ h => h) (.inl ⟨by rfl, fun W hW => ?_⟩) hSw10d ?_
        · clear hW; go_simp
        simp only [Act.put, List.getElem_toArray, List.getElem_cons_succ, List.getElem_cons_zero, List.setIfInBounds_toArray, List.set_cons_zero, List.set_cons_succ]
        refine wpAnyH_ready (rs := [16]) (by kernel_rfl) (by simp) (AllReadyH.cons rfl (fun K hK => ?_) (AllReadyH.nil))
        obtain ⟨hx0, u, hx1⟩ := hSw10d
        have x17 := hx1.here (i := 17) (v := u) rfl; have p17 := hx1.soft 17
        have hE := own_end roww10d hbw10d hx0 hx1 hBP hP01 hPw
        go_simp
        refine hK.out _ _ ⟨hE.box, _, hE.inn⟩ (fun hh => ?_)
        clear hh hK K x17 p17
        refine wpAnyH_done (by kernel_rfl) ?_ _
        go_wp2_with fail
        go_meet
        exact Lib.hid ⟨_, _, hE⟩
  case rest =>
    obtain ⟨G, c, hO⟩ := hcut.out
    obtain ⟨o1, o2, o3, o4, o5, o6⟩ := own_list hO.row rfl
    have HIn := Lib.hid hO.inn; have HBo := Lib.hid hO.box; have HBl := Lib.hid hO.below
    have HLg := Lib.hid o1; have HG9 := Lib.hid o2; have HGr := Lib.hid o5; have HGl := Lib.hid o4
    have hcl : p.trigs.length + 1 ≤ c := o3
    have hGP : P1 < G := o6
    have hwG := HBw.out
    clear hcut hO o1 o2 o3 o4 o5 o6 HS4 HB4 HSz
    have HCi := Lib.hid (fun (W : World) (hb : Below wc.heap.size wc W) => anyNew p (some ⟨G, 0, none⟩) c 3 2 0 W (HLg.out.below hb (Nat.le_refl _)) HFt.out HNm.out (by have := HZz.out; omega))
    go_wp2_with (refine wpList_load_row (by rfl) 29 (.tmp 5) (by rfl) P1 (by rfl) 29 _ (0, 0) _ HIn.out Tryz.underlying29 rfl (by kernel_rfl) ?_)
    refine (HCi.out _ (Below.refl _ _)).mono ?_
    intro e w2 hp
    clear HCi
    cases hp with
    | bad _ E he h0 hb =>
      have hb1 : (E != 0) = true := by simpa using h0
      have HB2 := Lib.hid (HBl.out.trans (hb.mono HBl.out.size))
      have HX2 := Lib.hid (HBo.out.below hb HBo.out.inside)
      have HC2 := Lib.hid (HC.out _ HB2.out)
      have HEE := Lib.hid he
      clear he h0 hb HC HBl HBo HIn HLg HG9 HGr HGl
      go_wp2_with (refine wpList_load_row (by rfl) 29 (.tmp 2) (by rfl) w.heap.size (by rfl) 29 _ (0, 0) _ HX2.out Tryz.underlying29 rfl (by kernel_rfl) ?_)
      refine HC2.out.mono ?_
      intro e w3 hp
      clear HC2 HX2
      cases hp with
      | bad _ E' he h0 hb =>
        have HF := Lib.hid (HB2.out.trans (hb.mono HB2.out.size))
        obtain rfl : E = E' := HEE.out.symm.trans he
        clear he h0 hb HEE
        go_wp2_with fail
        go_ret
        exact ⟨rfl, HF.out⟩
      | good _ q he hn hok hb =>
        exfalso
        rw [HEE.out] at he
        rw [he] at hb1; simp at hb1
    | good _ qa he hn hok hb =>
      have HB2 := Lib.hid (HBl.out.trans (hb.mono HBl.out.size))
      have HX2 := Lib.hid (HBo.out.below hb HBo.out.inside)
      have HC2 := Lib.hid (HC.out _ HB2.out)
      have HEE := Lib.hid he
      have HNa := Lib.hid hn
      have HBa := Lib.hid hb
      clear he hn hb HC
      go_wp2_with (refine wpList_load_row (by rfl) 29 (.tmp 2) (by rfl) w.heap.size (by rfl) 29 _ (0, 0) _ HX2.out Tryz.underlying29 rfl (by kernel_rfl) ?_)
      refine HC2.out.mono ?_
      intro e w3 hp
      clear HC2
      cases hp with
      | bad _ E' he h0 hb =>
        exfalso
        rw [HEE.out] at he
        exact h0 he.symm
      | good _ qb he hn hok2 hb =>
        have HT0 := Lib.hid (show TwoW (fun b => b < wc.heap.size) w3 qa (newWo p 3 2 0) qb (newWo p 3 2 0) from TwoW.made HNa.out (fun b hb2 => Nat.lt_of_lt_of_le hb2 HBa.out.size) hn hb)
        have HB3 := Lib.hid (HB2.out.trans (hb.mono HB2.out.size))
        have HBc := Lib.hid (HBa.out.trans (hb.mono HBa.out.size))
        have HOk := Lib.hid hok
        have HX3 := Lib.hid (HX2.out.below hb HX2.out.inside)
        clear he hn hok hok2 hb HB2 HNa HEE HBa HX2
        have HI3 := Lib.hid (HIn.out.below HBc.out HIn.out.inside)
        have HG3 := Lib.hid ((HBc.out.cell (p := ⟨G, p.trigs.length * 17, none⟩) HGl.out).trans HG9.out)
        have HWc := Lib.hid (show w.heap.size ≤ wc.heap.size from HBl.out.size)
        clear HIn HBo HG9 HBl
        by_cases h60 : 60 < l.length
        · have h60' : (60 : Int) < (l.length : Int) := by omega
          have HF := Lib.hid HB3.out
          clear h60 HT0
          go_wp2_with fail
          go_ret
          exact ⟨rfl, HF.out⟩
        · have h60' : (l.length : Int) ≤ 60 := by omega
          have HL60 := Lib.hid (show l.length ≤ 60 by omega)
          clear h60
          go_upto_region 9 with fail
          go_wp2_with fail
          have hS : Tide.At w3.drew w.heap.size 29 (plnC p (.slice A p.trigs.length cap)) ∧ Tide.At w3.drew P1 29 (plnC p (.slice (some ⟨G, 0, none⟩) p.trigs.length c)) ∧ w3.drew.cell? ⟨G, p.trigs.length * 17, none⟩ = some (.int .i64 9) := ⟨HX3.out, HI3.out, HG3.out⟩
          have hn0 : (0 : Int) ≤ (p.trigs.length : Int) := by omega
          have hq1 : IntKind.i64.wrap ((p.trigs.length : Int) + 1) = (p.trigs.length : Int) + 1 := by have := HZz.out; exact IntWalk.i64_in _ (by omega)
          have hc1 : (p.trigs.length : Int) + 1 ≤ (c : Int) := by omega
          have hc2 : (0 : Int) ≤ (p.trigs.length : Int) + 1 := by omega
          have hc3 : ((p.trigs.length : Int) + 1).toNat = p.trigs.length + 1 := by omega
          have hc4 : ¬ ((p.trigs.length : Int) + 1 ≤ (p.trigs.length : Int)) := by omega
          refine wp_region_held_drew (S := fun W => Tide.At W w.heap.size 29 (plnC p (.slice A p.trigs.length cap)) ∧ Tide.At W P1 29 (plnC p (.slice (some ⟨G, 0, none⟩) p.trigs.length c)) ∧ W.cell? ⟨G, p.trigs.length * 17, none⟩ = some (.int .i64 9)) (by kernel_rfl) hS (fun hS => ?_)
          change wpAnyH _ _ _ _ _ 20 #[false, false, false, false, false, false, false, false, false, false, false, false, false, false, false, false, false, false, false, false] _ (World.drew _)
          refine wpAnyH_take (i := 0) (v := .agg (plnC p (.slice (some ⟨G, 0, none⟩) p.trigs.length c))) rfl (by kernel_rfl) (by kernel_rfl) (by kernel_rfl) (fun _ _ _ h => h) (.inl ⟨by rfl, fun W hW => ?_⟩) hS ?_
          · exact exec_load_row rfl rfl hW.2.1 Tryz.underlying29 rfl (by kernel_rfl)
          simp only [Act.put, List.getElem_toArray, List.getElem_cons_succ, List.getElem_cons_zero, List.setIfInBounds_toArray, List.set_cons_zero, List.set_cons_succ]
          refine wpAnyH_take (i := 1) (v := .agg (plnC p (.slice A p.trigs.length cap))) rfl (by kernel_rfl) (by kernel_rfl) (by kernel_rfl) (fun _ _ _ h => h) (.inl ⟨by rfl, fun W hW => ?_⟩) hS ?_
          · exact exec_load_row rfl rfl hW.1 Tryz.underlying29 rfl (by kernel_rfl)
          simp only [Act.put, List.getElem_toArray, List.getElem_cons_succ, List.getElem_cons_zero, List.setIfInBounds_toArray, List.set_cons_zero, List.set_cons_succ]
          refine wpAnyH_ready (rs := [2]) (by kernel_rfl) (by simp) (AllReadyH.cons rfl (fun K hK => ?_) AllReadyH.nil)
          go_simp
          refine (refSame p (some ⟨G, 0, none⟩) A c cap w3.drew (HLg.out.below HBc.out.drew (Nat.le_refl _)) (HLi.out.below HB3.out.drew (Nat.le_refl _)) (by have := HZz.out; omega)).mono ?_
          rintro e w4 ⟨rfl, hb4⟩
          have hS4 : Tide.At w4 w.heap.size 29 (plnC p (.slice A p.trigs.length cap)) ∧ Tide.At w4 P1 29 (plnC p (.slice (some ⟨G, 0, none⟩) p.trigs.length c)) ∧ w4.cell? ⟨G, p.trigs.length * 17, none⟩ = some (.int .i64 9) := ⟨hS.1.below hb4 hS.1.inside, hS.2.1.below hb4 hS.2.1.inside, (hb4.cell (p := ⟨G, p.trigs.length * 17, none⟩) (World.block_lt_of_cell? _ _ hS.2.2)).trans hS.2.2⟩
          go_wp2_with fail
          refine hK.out _ _ hS4 (fun hh => ?_)
          clear hh hK K
          simp only [Act.put, List.getElem_toArray, List.getElem_cons_succ, List.getElem_cons_zero, List.setIfInBounds_toArray, List.set_cons_zero, List.set_cons_succ]
          refine wpAnyH_take (i := 3) (v := .bool false) rfl (by kernel_rfl) (by kernel_rfl) (by kernel_rfl) (fun _ _ _ h => h) (.inl ⟨by rfl, fun W hW => ?_⟩) hS4 ?_
          · clear hW; go_simp
          simp only [Act.put, List.getElem_toArray, List.getElem_cons_succ, List.getElem_cons_zero, List.setIfInBounds_toArray, List.set_cons_zero, List.set_cons_succ]
          refine wpAnyH_take (i := 4) (v := .bool false) rfl (by kernel_rfl) (by kernel_rfl) (by kernel_rfl) (fun _ _ _ h => h) (.inl ⟨by rfl, fun W hW => ?_⟩) hS4 ?_
          · clear hW; go_simp
          simp only [Act.put, List.getElem_toArray, List.getElem_cons_succ, List.getElem_cons_zero, List.setIfInBounds_toArray, List.set_cons_zero, List.set_cons_succ]
          refine wpAnyH_take (i := 5) (v := .pointer (some ⟨P1, 17, none⟩)) rfl (by kernel_rfl) (by kernel_rfl) (by kernel_rfl) (fun _ _ _ h => h) (.inl ⟨by rfl, fun W hW => ?_⟩) hS4 ?_
          · clear hW; go_simp
          simp only [Act.put, List.getElem_toArray, List.getElem_cons_succ, List.getElem_cons_zero, List.setIfInBounds_toArray, List.set_cons_zero, List.set_cons_succ]
          refine wpAnyH_take (i := 6) (v := .slice (some ⟨G, 0, none⟩) p.trigs.length c) rfl (by kernel_rfl) (by kernel_rfl) (by kernel_rfl) (fun _ _ _ h => h) (.inl ⟨by rfl, fun W hW => ?_⟩) hS4 ?_
          · have z17 := hW.2.1.here (i := 17) (v := .slice (some ⟨G, 0, none⟩) p.trigs.length c) rfl; clear hW; go_simp
          simp only [Act.put, List.getElem_toArray, List.getElem_cons_succ, List.getElem_cons_zero, List.setIfInBounds_toArray, List.set_cons_zero, List.set_cons_succ]
          refine wpAnyH_take (i := 7) (v := .pointer (some ⟨w.heap.size, 17, none⟩)) rfl (by kernel_rfl) (by kernel_rfl) (by kernel_rfl) (fun _ _ _ h => h) (.inl ⟨by rfl, fun W hW => ?_⟩) hS4 ?_
          · clear hW; go_simp
          simp only [Act.put, List.getElem_toArray, List.getElem_cons_succ, List.getElem_cons_zero, List.setIfInBounds_toArray, List.set_cons_zero, List.set_cons_succ]
          refine wpAnyH_take (i := 8) (v := .slice A p.trigs.length cap) rfl (by kernel_rfl) (by kernel_rfl) (by kernel_rfl) (fun _ _ _ h => h) (.inl ⟨by rfl, fun W hW => ?_⟩) hS4 ?_
          · have z17 := hW.1.here (i := 17) (v := .slice A p.trigs.length cap) rfl; clear hW; go_simp
          simp only [Act.put, List.getElem_toArray, List.getElem_cons_succ, List.getElem_cons_zero, List.setIfInBounds_toArray, List.set_cons_zero, List.set_cons_succ]
          refine wpAnyH_take (i := 9) (v := .int .i64 (p.trigs.length : Int)) rfl (by kernel_rfl) (by kernel_rfl) (by kernel_rfl) (fun _ _ _ h => h) (.inl ⟨by rfl, fun W hW => ?_⟩) hS4 ?_
          · clear hW; go_simp
          simp only [Act.put, List.getElem_toArray, List.getElem_cons_succ, List.getElem_cons_zero, List.setIfInBounds_toArray, List.set_cons_zero, List.set_cons_succ]
          refine wpAnyH_take (i := 10) (v := .int .i64 ((p.trigs.length : Int) + 1)) rfl (by kernel_rfl) (by kernel_rfl) (by kernel_rfl) (fun _ _ _ h => h) (.inl ⟨by rfl, fun W hW => ?_⟩) hS4 ?_
          · clear hW; go_simp
          simp only [Act.put, List.getElem_toArray, List.getElem_cons_succ, List.getElem_cons_zero, List.setIfInBounds_toArray, List.set_cons_zero, List.set_cons_succ]
          refine wpAnyH_take (i := 11) (v := .slice (some ⟨G, 0, none⟩) (p.trigs.length + 1) c) rfl (by kernel_rfl) (by kernel_rfl) (by kernel_rfl) (fun _ _ _ h => h) (.inl ⟨by rfl, fun W hW => ?_⟩) hS4 ?_
          · clear hW; go_simp
          simp only [Act.put, List.getElem_toArray, List.getElem_cons_succ, List.getElem_cons_zero, List.setIfInBounds_toArray, List.set_cons_zero, List.set_cons_succ]
          refine wpAnyH_take (i := 12) (v := .pointer (some ⟨w.heap.size, 17, none⟩)) rfl (by kernel_rfl) (by kernel_rfl) (by kernel_rfl) (fun _ _ _ h => h) (.inl ⟨by rfl, fun W hW => ?_⟩) hS4 ?_
          · clear hW; go_simp
          simp only [Act.put, List.getElem_toArray, List.getElem_cons_succ, List.getElem_cons_zero, List.setIfInBounds_toArray, List.set_cons_zero, List.set_cons_succ]
          refine wpAnyH_take (i := 13) (v := .slice A p.trigs.length cap) rfl (by kernel_rfl) (by kernel_rfl) (by kernel_rfl) (fun _ _ _ h => h) (.inl ⟨by rfl, fun W hW => ?_⟩) hS4 ?_
          · have z17 := hW.1.here (i := 17) (v := .slice A p.trigs.length cap) rfl; clear hW; go_simp
          simp only [Act.put, List.getElem_toArray, List.getElem_cons_succ, List.getElem_cons_zero, List.setIfInBounds_toArray, List.set_cons_zero, List.set_cons_succ]
          refine wpAnyH_take (i := 14) (v := .int .i64 (p.trigs.length : Int)) rfl (by kernel_rfl) (by kernel_rfl) (by kernel_rfl) (fun _ _ _ h => h) (.inl ⟨by rfl, fun W hW => ?_⟩) hS4 ?_
          · clear hW; go_simp
          simp only [Act.put, List.getElem_toArray, List.getElem_cons_succ, List.getElem_cons_zero, List.setIfInBounds_toArray, List.set_cons_zero, List.set_cons_succ]
          refine wpAnyH_take (i := 15) (v := .pointer (some ⟨G, p.trigs.length * 17, none⟩)) rfl (by kernel_rfl) (by kernel_rfl) (by kernel_rfl) (fun _ _ _ h => h) (.inl ⟨by rfl, fun W hW => ?_⟩) hS4 ?_
          · clear hW; go_simp
          simp only [Act.put, List.getElem_toArray, List.getElem_cons_succ, List.getElem_cons_zero, List.setIfInBounds_toArray, List.set_cons_zero, List.set_cons_succ]
          refine wpAnyH_take (i := 16) (v := .pointer (some ⟨G, p.trigs.length * 17, none⟩)) rfl (by kernel_rfl) (by kernel_rfl) (by kernel_rfl) (fun _ _ _ h => h) (.inl ⟨by rfl, fun W hW => ?_⟩) hS4 ?_
          · clear hW; go_simp
          simp only [Act.put, List.getElem_toArray, List.getElem_cons_succ, List.getElem_cons_zero, List.setIfInBounds_toArray, List.set_cons_zero, List.set_cons_succ]
          refine wpAnyH_take (i := 17) (v := .int .i64 9) rfl (by kernel_rfl) (by kernel_rfl) (by kernel_rfl) (fun _ _ _ h => h) (.inl ⟨by rfl, fun W hW => ?_⟩) hS4 ?_
          · have z9 := hW.2.2; clear hW; go_simp
          simp only [Act.put, List.getElem_toArray, List.getElem_cons_succ, List.getElem_cons_zero, List.setIfInBounds_toArray, List.set_cons_zero, List.set_cons_succ]
          refine wpAnyH_take (i := 18) (v := .bool false) rfl (by kernel_rfl) (by kernel_rfl) (by kernel_rfl) (fun _ _ _ h => h) (.inl ⟨by rfl, fun W hW => ?_⟩) hS4 ?_
          · clear hW; go_simp
          simp only [Act.put, List.getElem_toArray, List.getElem_cons_succ, List.getElem_cons_zero, List.setIfInBounds_toArray, List.set_cons_zero, List.set_cons_succ]
          refine wpAnyH_take (i := 19) (v := .bool false) rfl (by kernel_rfl) (by kernel_rfl) (by kernel_rfl) (fun _ _ _ h => h) (.inl ⟨by rfl, fun W hW => ?_⟩) hS4 ?_
          · clear hW; go_simp
          simp only [Act.put, List.getElem_toArray, List.getElem_cons_succ, List.getElem_cons_zero, List.setIfInBounds_toArray, List.set_cons_zero, List.set_cons_succ]
          refine wpAnyH_done (by kernel_rfl) ?_ _
          have x17 := hS4.2.1.here (i := 17) (v := .slice (some ⟨G, 0, none⟩) p.trigs.length c) rfl
          have HT4 := Lib.hid (HT0.out.below (show Below w3.heap.size w3 w4 from ⟨hb4.os, hb4.tape, hb4.output, hb4.size, hb4.block⟩))
          have HB4 := Lib.hid (HB3.out.trans ((show Below w3.heap.size w3 w4 from ⟨hb4.os, hb4.tape, hb4.output, hb4.size, hb4.block⟩).mono HB3.out.size))
          have HGr4 := Lib.hid (HGr.out.chg (C := fun _ => False) (Tide.Chg.of_below (HBc.out.trans ((show Below w3.heap.size w3 w4 from ⟨hb4.os, hb4.tape, hb4.output, hb4.size, hb4.block⟩).mono HBc.out.size)) (Nat.le_refl _)) (fun _ _ h => h))
          clear hS hS4 hb4 HT0 HB3 HX3 HI3 HG3 HLg HGr HLi HBc hq1
          as_aux_lemma =>
          go_wp2_with (refine wpList_build2 (by rfl) 37 _ (by rfl) [(0, .int .i64 2), (1, .int .i64 1)] (by rfl) TSC tsp_built ?_)
          refine (trg_spoil (fun b => b = G) (some ⟨G, 0, none⟩) p.trigs.length c (p.trigs.flatMap Trg.enc) _ HGr4.out).mono ?_
          rintro e w5 ⟨rfl, hc5⟩
          have HS0 := Lib.hid (show ∃ ma mb, OwRun w (fun b => b < wc.heap.size) w5 qa qb ma mb ∧ ma.ok (1000 * 0) ∧ mb.ok (1000 * 0) ∧ Alike ma mb from
            ⟨_, _, ⟨(HT4.out.stir hc5 (fun b hb => by subst hb; exact HGl.out)).mono fun b hb => .inl hb, HB4.out.trans (hc5.below HB4.out.size (fun k hk e => by have e : k = G := e; have := hGP; have := hwG; omega))⟩, HOk.out, HOk.out, Alike.refl _⟩)
          have HRz := Lib.hid (show ∀ b, b < w.heap.size → b < wc.heap.size from fun b hb => by have := HWc.out; omega)
          clear hc5 x17 HT4 HB4 HGr4 HGl HOk HWc hGP hwG hcl hc1 hc2 hc3 hc4 hwp
          generalize wc.heap.size = rz at HS0 HRz
          go_wp2_with fail
          go_loopw [81] (fun i wr => ∃ k : Nat, k ≤ l.length ∧ i = .int .i64 k ∧ Hid (∃ ma mb, OwRun w (fun b => b < rz) wr qa qb ma mb ∧ ma.ok (1000 * k) ∧ mb.ok (1000 * k) ∧ Alike ma mb)) (fun i _ => l.length - (intOf i).toNat)
          case atStart => exact ⟨0, Nat.zero_le _, rfl, HS0⟩
          case round =>
            clear HS0
            obtain ⟨k, hk, rfl, HK⟩ := hrel
            obtain ⟨ma, mb, hK⟩ := HK.out
            have HKm := Lib.hid hK
            clear hK HK
            by_cases hlt : k < l.length
            · obtain ⟨b, off, x, y, z, rfl, c0, c1, c2, hrow, ⟨z0, z1⟩, hbl⟩ := hap_row HA.out HRw.out HKm.out.1.2 hlt
              have hk0 : (0 : Int) ≤ (k : Int) := by omega
              have hk1 : (k : Int) < (l.length : Int) := by omega
              have HLk := Lib.hid (show 1000 * k ≤ 88000 by have := HL60.out; omega)
              obtain ⟨hb1, hb2⟩ := HKm.out.1.1.boxed (.cells #[.int .i64 x, .int .i64 y, .int .i64 z] 44)
              have HXx := Lib.hid (Tide.At.made wr 44 #[.int .i64 x, .int .i64 y, .int .i64 z])
              have HBx := Lib.hid (HKm.out.1.2.trans (hb2.below HKm.out.1.2.size (fun j hj h => h (HRz.out j hj))))
              obtain ⟨R1, hw1, hs1, hst1⟩ := hb1.left
              have HW1 := Lib.hid hw1; have HS1 := Lib.hid hst1
              clear hb1 hb2 hrow hw1 hs1 hst1
              go_wp2_with fail
              refine (woDo x y z HW1.out HKm.out.2.1 HLk.out z0 z1).mono ?_
              rintro e w6 ⟨rfl, hc⟩
              obtain ⟨hT4, hch⟩ := HS1.out _ _ hc
              have HX4 := At.kept HXx.out hch (.inr rfl)
              have HB6 := Lib.hid (HBx.out.trans (hch.below HBx.out.size (fun j hj h => h (.inl (HRz.out j hj)))))
              obtain ⟨R2, hw2, hs2, hst2⟩ := hT4.right
              have HW2 := Lib.hid hw2; have HS2 := Lib.hid hst2
              have y0 := HX4.here (i := 0) rfl
              have y1 := HX4.here (i := 1) rfl
              have y2 := HX4.here (i := 2) rfl
              clear hc hT4 hch hw2 hs2 hst2 HW1 HS1 c0 c1 c2
              go_wp2_with fail
              refine (woDo x y z HW2.out HKm.out.2.2.1 HLk.out z0 z1).mono ?_
              rintro e w7 ⟨rfl, hc⟩
              obtain ⟨hT5, hch⟩ := HS2.out _ _ hc
              have HR := Lib.hid (show OwRun w (fun b => b < rz) w7 qa qb (doW ma x y z) (doW mb x y z) from
                ⟨hT5.mono fun _ hb => .inl hb, HB6.out.trans (hch.below HB6.out.size (fun j hj h => h (.inl (HRz.out j hj))))⟩)
              have HO := Lib.hid (show (doW ma x y z).ok (1000 * (k + 1)) ∧ (doW mb x y z).ok (1000 * (k + 1)) ∧ Alike (doW ma x y z) (doW mb x y z) from ⟨(ok_do HKm.out.2.1 x y z).up (by omega), (ok_do HKm.out.2.2.1 x y z).up (by omega), HKm.out.2.2.2.do x y z⟩)
              clear hc hT5 hch HX4 y0 y1 y2 HW2 HS2 HKm HBx HB6 HXx
              generalize doW ma x y z = na at HR HO
              generalize doW mb x y z = nb at HR HO
              generalize doE ma x y z = ea
              generalize doE mb x y z = eb
              go_wp2_with fail
              refine (woPodsOf HR.out.1.one).mono ?_
              rintro e wa ⟨v, rfl, ho, hb⟩
              obtain ⟨Ap, cp, rfl, _⟩ := ho.slice
              have HOr := Lib.hid ho; have HBr := Lib.hid hb
              clear ho hb
              go_wp2_with fail
              refine (pod_spoil _ Ap _ cp _ _ HOr.out).mono ?_
              rintro e w8 ⟨rfl, hc⟩
              have HR2 := Lib.hid (HR.out.spoil HBr.out hc)
              clear hc HR HOr HBr
              go_wp2_with fail
              refine (woReqsOf HR2.out.1.one).mono ?_
              rintro e wb ⟨v, rfl, ho, hb⟩
              obtain ⟨Aq, cq, rfl, _⟩ := ho.slice
              have HOr := Lib.hid ho; have HBr := Lib.hid hb
              clear ho hb
              go_wp2_with fail
              refine (req_spoil _ Aq _ cq _ _ HOr.out).mono ?_
              rintro e w9 ⟨rfl, hc⟩
              have HR3 := Lib.hid (HR2.out.spoil HBr.out hc)
              clear hc HR2 HOr HBr
              go_wp2_with fail
              refine (woLagsOf HR3.out.1.one HO.out.1.tp).mono ?_
              rintro e wd ⟨v, rfl, ho, hb⟩
              have ho2 := Tide.OwnRow.of_owns (S := fun b => w9.heap.size ≤ b) ho (Tide.own_ge ho)
              obtain ⟨Al, cl, rfl, _⟩ := ho2.slice
              have HOr := Lib.hid ho2; have HBr := Lib.hid hb
              clear ho ho2 hb
              go_wp2_with fail
              refine (int_spoil _ Al _ cl 99 _ _ HOr.out).mono ?_
              rintro e wf ⟨rfl, hc⟩
              have HR4 := Lib.hid (HR3.out.spoil HBr.out hc)
              clear hc HR3 HOr HBr
              obtain ⟨R3, hw3, hs3, hst3⟩ := HR4.out.1.leftN
              have HW3 := Lib.hid hw3; have HS3 := Lib.hid hst3
              clear hw3 hs3 hst3
              go_wp2_with fail
              refine (woMsgsOf HW3.out).mono ?_
              rintro e wg ⟨v, rfl, ho, hn3, hc3⟩
              obtain ⟨Am, cm, rfl, _⟩ := ho.slice
              obtain ⟨hT, hch⟩ := HS3.out _ _ hn3 hc3
              have HOr := Lib.hid ho; have HTm := Lib.hid hT; have HCm := Lib.hid hch
              clear ho hn3 hc3 hT hch HW3 HS3
              go_wp2_with fail
              refine (msg_spoil _ Am _ cm _ _ HOr.out).mono ?_
              rintro e wh ⟨rfl, hc⟩
              have HNx := Lib.hid (show ∃ ma mb, OwRun w (fun b => b < rz) wh qa qb ma mb ∧ ma.ok (1000 * (k + 1)) ∧ mb.ok (1000 * (k + 1)) ∧ Alike ma mb from
                ⟨_, _, HR4.out.spoilM HRz.out HTm.out HCm.out hc, ok_msgs HO.out.1, HO.out.2.1, HO.out.2.2.msgs⟩)
              clear hc HR4 HOr HTm HCm HO
              go_wp2_with fail
              go_roundw
              case rel => exact ⟨k + 1, by omega, by go_num, HNx⟩
              case measure => simp [intOf]; omega
            · obtain ⟨e1, e2, e3, e4⟩ := HKm.out.2.2.2.rest
              have e5 := HKm.out.2.2.2.all
              have HZ := Lib.hid HKm.out.1
              have HOkz := Lib.hid HKm.out.2.1
              have HE1 := Lib.hid e1; have HE2 := Lib.hid e2; have HE3 := Lib.hid e3; have HE4 := Lib.hid e4; have HE5 := Lib.hid e5
              have HFn := Lib.hid (show ma.f.length ≤ 100000000 by have := HOkz.out.fn; have := HL60.out; omega)
              clear HKm e1 e2 e3 e4 e5
              go_wp2_with fail
              refine (woTarget HZ.out.1.one).mono ?_
              rintro e w' ⟨rfl, rfl⟩
              go_wp2_with fail
              refine (woTarget HZ.out.1.two).mono ?_
              rintro e w' ⟨rfl, rfl⟩
              rw [← HE1.out]
              go_wp2_with fail
              refine (woPodsOf HZ.out.1.one).mono ?_
              rintro e wa1 ⟨va1, rfl, ho, hb⟩
              obtain ⟨Aa1, ca1, rfl, _⟩ := ho.slice
              have HLa1 := Lib.hid (ho.list Tide.Pod.enc_length)
              have HZa1 := Lib.hid (HZ.out.below hb)
              clear ho hb HZ
              go_wp2_with fail
              refine (woPodsOf HZa1.out.1.two).mono ?_
              rintro e wb1 ⟨vb1, rfl, ho, hb⟩
              rw [← HE2.out] at ho
              obtain ⟨Ab1, cb1, rfl, _⟩ := ho.slice
              have HLb1 := Lib.hid (ho.list Tide.Pod.enc_length)
              have HLc1 := Lib.hid (HLa1.out.below hb (Nat.le_refl _))
              have HZb1 := Lib.hid (HZa1.out.below hb)
              clear ho hb HZa1 HLa1
              go_wp2_with fail
              refine (epod_equal _ _ ma.f _ HLc1.out HLb1.out HFn.out).mono ?_
              rintro e wc1 ⟨rfl, hc⟩
              have HZ2 := Lib.hid (HZb1.out.chg hc)
              clear hc HLb1 HLc1 HZb1
              go_wp2_with fail
              refine (woReqsOf HZ2.out.1.one).mono ?_
              rintro e wa2 ⟨va2, rfl, ho, hb⟩
              obtain ⟨Aa2, ca2, rfl, _⟩ := ho.slice
              have HLa2 := Lib.hid (ho.list Tide.Req.enc_length)
              have HZa2 := Lib.hid (HZ2.out.below hb)
              clear ho hb HZ2
              go_wp2_with fail
              refine (woReqsOf HZa2.out.1.two).mono ?_
              rintro e wb2 ⟨vb2, rfl, ho, hb⟩
              rw [← HE3.out] at ho
              obtain ⟨Ab2, cb2, rfl, _⟩ := ho.slice
              have HLb2 := Lib.hid (ho.list Tide.Req.enc_length)
              have HLc2 := Lib.hid (HLa2.out.below hb (Nat.le_refl _))
              have HZb2 := Lib.hid (HZa2.out.below hb)
              clear ho hb HZa2 HLa2
              go_wp2_with fail
              refine (ereq_equal _ _ ma.b _ HLc2.out HLb2.out (by have := HOkz.out.bn; omega)).mono ?_
              rintro e wc2 ⟨rfl, hc⟩
              have HZ3 := Lib.hid (HZb2.out.chg hc)
              clear hc HLb2 HLc2 HZb2
              go_wp2_with fail
              refine (woLagsOf HZ3.out.1.one HOkz.out.tp).mono ?_
              rintro e wa3 ⟨v, rfl, ho, hb⟩
              have ho2 := Tide.OwnRow.of_owns (S := fun _ => True) ho (fun _ _ => trivial)
              obtain ⟨Aa3, ca3, rfl, _⟩ := ho2.slice
              have HLa3 := Lib.hid (own_int ho2)
              have HZa3 := Lib.hid (HZ3.out.below hb)
              clear ho ho2 hb HZ3
              go_wp2_with fail
              refine (woLagsOf HZa3.out.1.two (by rw [← HE4.out]; exact HOkz.out.tp)).mono ?_
              rintro e wb3 ⟨v, rfl, ho, hb⟩
              rw [← HE4.out] at ho
              have ho2 := Tide.OwnRow.of_owns (S := fun _ => True) ho (fun _ _ => trivial)
              obtain ⟨Ab3, cb3, rfl, _⟩ := ho2.slice
              have HLb3 := Lib.hid (own_int ho2)
              have HLc3 := Lib.hid (HLa3.out.below hb)
              have HZb3 := Lib.hid (HZa3.out.below hb)
              clear ho ho2 hb HZa3 HLa3
              go_wp2_with fail
              refine (eint_equal _ _ (lagsOf ma.t) _ HLc3.out HLb3.out (by have := HOkz.out.tn; unfold lagsOf; rw [List.length_map]; omega)).mono ?_
              rintro e wc3 ⟨rfl, hc⟩
              have HZ4 := Lib.hid (HZb3.out.chg hc)
              clear hc HLb3 HLc3 HZb3
              obtain ⟨R3, hw3, hs3, hst3⟩ := HZ4.out.1.leftN
              have HW3 := Lib.hid hw3; have HS3 := Lib.hid hst3
              clear hw3 hs3 hst3
              go_wp2_with fail
              refine (woMsgsOf HW3.out).mono ?_
              rintro e wm ⟨vm, rfl, ho, hn3, hc3⟩
              obtain ⟨Am, cm, rfl, _⟩ := ho.slice
              obtain ⟨hT, hch⟩ := HS3.out _ _ hn3 hc3
              have HLm := Lib.hid ho
              have HBm := Lib.hid (HZ4.out.2.trans (hch.below HZ4.out.2.size (fun i hi h => h (HRz.out i hi))))
              obtain ⟨R4, hw4, hs4, hst4⟩ := hT.right
              have HW4 := Lib.hid hw4; have HS4 := Lib.hid hst4
              clear ho hn3 hc3 hT hch hw4 hs4 hst4 HW3 HS3
              go_wp2_with fail
              refine (woMsgsOf HW4.out).mono ?_
              rintro e wn ⟨vn, rfl, ho, hn4, hc4⟩
              rw [← HE5.out] at ho
              obtain ⟨An, cn, rfl, _⟩ := ho.slice
              have hC4 := HS4.out wn _ ⟨hn4.mono fun _ hb => .inl hb, hc4⟩
              have HLn := Lib.hid (ho.list Tide.Msg.enc_length)
              have HLp := Lib.hid ((HLm.out.list2 hC4.2 fun b hb => .inr hb).list Tide.Msg.enc_length)
              have HBn := Lib.hid (HBm.out.trans (hC4.2.below HBm.out.size (fun i hi h => h (.inl (HRz.out i hi)))))
              clear ho hn4 hc4 hC4 HW4 HS4
              go_wp2_with fail
              refine (emsg_equal _ _ (Tide.allLst ma.q ma.now) _ HLp.out HLn.out (by
                have := HOkz.out.qn
                unfold Tide.allLst; split
                · unfold Tide.backAll; rw [List.length_map]; omega
                · simp)).mono ?_
              rintro e wz ⟨rfl, hc⟩
              have HF := Lib.hid (HBn.out.trans (hc.below HBn.out.size (fun _ _ h => h)))
              clear hc HLn HLp
              go_wp2_with fail
              go_ret
              exact ⟨rfl, HF.out⟩
end Go.Proofs.YtlfaogkdghnmcaaGreat
