/- The reference's SamePlan, of two plans alike. -/
import Derived.Test.YthelnkoohbnjpaaDoorZPln
import Derived.Test.YthelnkoohbnjpaaDoorZBase
import Derived.Deep.RegionHeld3
import Derived.Deep.MidRow
set_option linter.unusedVariables false
set_option linter.unusedSimpArgs false
namespace Go.Proofs.YthelnkoohbnjpaaDoor
open Go.RowKit
set_option linter.unusedVariables false
set_option maxRecDepth 100000 in
set_option maxHeartbeats 3200000 in
theorem trg_equal (u v : Value) (l : List Trg) (w : World) (hu : Tide.ListIn w 17 Trg.enc u l) (hv : Tide.ListIn w 17 Trg.enc v l) (hl : l.length ≤ 9223372036854775807) :
    Calls Tryd.prog 51 #[u, v] w fun e w' => e = .returned (.bool true) ∧ Tide.Chg (fun _ => False) w w' := by
  obtain ⟨A, c, rfl, hA⟩ := hu
  obtain ⟨A', c', rfl, hA'⟩ := hv
  have HA := Lib.hid hA; have HA' := Lib.hid hA'
  have hl2 : (l.length : Int) ≤ 9223372036854775807 := by omega
  clear hA hA'
  go_enter Tryd.func51, Tryd.ntmps51
  go_wp2_with fail
  go_loopw [13] (fun i wr => ∃ k : Nat, k ≤ l.length ∧ i = .int .i64 k ∧ Hid (Tide.Chg (fun _ => False) w wr)) (fun i _ => l.length - (intOf i).toNat)
  case atStart => exact ⟨0, by omega, rfl, Lib.hid (Tide.Chg.refl _ _)⟩
  case round =>
    obtain ⟨k, hk, rfl, HC⟩ := hrel
    by_cases hlt : k < l.length
    · obtain ⟨b, off, e1, hb, hc⟩ := HA.out (by omega)
      obtain ⟨b', off', e1', hb', hc'⟩ := HA'.out (by omega)
      subst e1 e1'
      obtain ⟨m, hm⟩ := Tide.get_some l hlt
      have HS := Lib.hid (show wr.drew.rangeAt b (off + k * 17) m.enc ∧ wr.drew.rangeAt b' (off' + k * 17) m.enc from
        ⟨fun j u hu => (World.cell?_of_block (w := w) (a := ⟨b, off + k * 17 + j, none⟩) (HC.out.block b hb (fun h => h))).trans (hc k m j u hm hu),
          fun j u hu => (World.cell?_of_block (w := w) (a := ⟨b', off' + k * 17 + j, none⟩) (HC.out.block b' hb' (fun h => h))).trans (hc' k m j u hm hu)⟩)
      have i0 : (0 : Int) ≤ (k : Int) := by omega
      have i1 : (k : Int) < (l.length : Int) := by omega
      clear hc hc' hm HA HA'
      go_wp2_with fail
      refine wp_region_held_drew (S := fun W => W.rangeAt b (off + k * 17) m.enc ∧ W.rangeAt b' (off' + k * 17) m.enc) (by kernel_rfl) HS.out (fun hS => ?_)
      change wpAnyH _ _ _ _ _ 9 #[false, false, false, false, false, false, false, false, false] _ (World.drew _)
      refine wpAnyH_take (i := 0) (v := .slice (some ⟨b, off, none⟩) l.length c) rfl (by kernel_rfl) (by kernel_rfl) (by kernel_rfl) (fun _ _ _ h => h) (.inl ⟨by rfl, fun W hW => ?_⟩) hS ?_
      · clear hW; go_simp
      simp only [Act.put, List.getElem_toArray, List.getElem_cons_succ, List.getElem_cons_zero, List.setIfInBounds_toArray, List.set_cons_zero, List.set_cons_succ]
      refine wpAnyH_take (i := 1) (v := .int .i64 (k : Int)) rfl (by kernel_rfl) (by kernel_rfl) (by kernel_rfl) (fun _ _ _ h => h) (.inl ⟨by rfl, fun W hW => ?_⟩) hS ?_
      · clear hW; go_simp
      simp only [Act.put, List.getElem_toArray, List.getElem_cons_succ, List.getElem_cons_zero, List.setIfInBounds_toArray, List.set_cons_zero, List.set_cons_succ]
      refine wpAnyH_take (i := 2) (v := .pointer (some ⟨b, off + k * 17, none⟩)) rfl (by kernel_rfl) (by kernel_rfl) (by kernel_rfl) (fun _ _ _ h => h) (.inl ⟨by rfl, fun W hW => ?_⟩) hS ?_
      · clear hW; go_simp
      simp only [Act.put, List.getElem_toArray, List.getElem_cons_succ, List.getElem_cons_zero, List.setIfInBounds_toArray, List.set_cons_zero, List.set_cons_succ]
      refine wpAnyH_take (i := 3) (v := .agg m.enc.toArray) rfl (by kernel_rfl) (by kernel_rfl) (by kernel_rfl) (fun _ _ _ h => h) (yieldsIf_load_mid (by rfl) 82 (.tmp 18) rfl b (off + k * 17) rfl m.enc _ (fun W h => h.1) Tryd.underlying82 rfl (by kernel_rfl)) hS ?_
      simp only [Act.put, List.getElem_toArray, List.getElem_cons_succ, List.getElem_cons_zero, List.setIfInBounds_toArray, List.set_cons_zero, List.set_cons_succ]
      refine wpAnyH_take (i := 4) (v := .slice (some ⟨b', off', none⟩) l.length c') rfl (by kernel_rfl) (by kernel_rfl) (by kernel_rfl) (fun _ _ _ h => h) (.inl ⟨by rfl, fun W hW => ?_⟩) hS ?_
      · clear hW; go_simp
      simp only [Act.put, List.getElem_toArray, List.getElem_cons_succ, List.getElem_cons_zero, List.setIfInBounds_toArray, List.set_cons_zero, List.set_cons_succ]
      refine wpAnyH_take (i := 5) (v := .int .i64 (k : Int)) rfl (by kernel_rfl) (by kernel_rfl) (by kernel_rfl) (fun _ _ _ h => h) (.inl ⟨by rfl, fun W hW => ?_⟩) hS ?_
      · clear hW; go_simp
      simp only [Act.put, List.getElem_toArray, List.getElem_cons_succ, List.getElem_cons_zero, List.setIfInBounds_toArray, List.set_cons_zero, List.set_cons_succ]
      refine wpAnyH_take (i := 6) (v := .pointer (some ⟨b', off' + k * 17, none⟩)) rfl (by kernel_rfl) (by kernel_rfl) (by kernel_rfl) (fun _ _ _ h => h) (.inl ⟨by rfl, fun W hW => ?_⟩) hS ?_
      · clear hW; go_simp
      simp only [Act.put, List.getElem_toArray, List.getElem_cons_succ, List.getElem_cons_zero, List.setIfInBounds_toArray, List.set_cons_zero, List.set_cons_succ]
      refine wpAnyH_take (i := 7) (v := .agg m.enc.toArray) rfl (by kernel_rfl) (by kernel_rfl) (by kernel_rfl) (fun _ _ _ h => h) (yieldsIf_load_mid (by rfl) 82 (.tmp 22) rfl b' (off' + k * 17) rfl m.enc _ (fun W h => h.2) Tryd.underlying82 rfl (by kernel_rfl)) hS ?_
      simp only [Act.put, List.getElem_toArray, List.getElem_cons_succ, List.getElem_cons_zero, List.setIfInBounds_toArray, List.set_cons_zero, List.set_cons_succ]
      refine wpAnyH_take (i := 8) (v := .bool false) rfl (by kernel_rfl) (by kernel_rfl) (by kernel_rfl) (fun _ _ _ h => h) (.inl ⟨by rfl, fun W hW => ?_⟩) hS ?_
      · clear hW; unfold Trg.enc; go_simp
      simp only [Act.put, List.getElem_toArray, List.getElem_cons_succ, List.getElem_cons_zero, List.setIfInBounds_toArray, List.set_cons_zero, List.set_cons_succ]
      refine wpAnyH_done (by kernel_rfl) ?_ _
      have HN := Lib.hid HC.out.drew
      clear hS HS HC
      go_wp2_with fail
      go_roundw
      case rel => exact ⟨k + 1, by omega, by go_num, HN⟩
      case measure => simp [intOf]; omega
    · have HF := Lib.hid HC.out
      clear HC
      go_wp2_with fail
      go_ret
      exact ⟨rfl, HF.out⟩
set_option maxRecDepth 100000 in
set_option maxHeartbeats 6400000 in
theorem refSame (p : Pln) (A1 A2 : Option Addr) (c1 c2 : Nat) (w : World) (h1 : Tide.ListIn w 17 Trg.enc (.slice A1 p.trigs.length c1) p.trigs) (h2 : Tide.ListIn w 17 Trg.enc (.slice A2 p.trigs.length c2) p.trigs) (hl : p.trigs.length ≤ 9223372036854775807) :
    Calls Tryd.prog 23 #[.agg (plnC p (.slice A1 p.trigs.length c1)), .agg (plnC p (.slice A2 p.trigs.length c2))] w fun e w' => e = .returned (.bool true) ∧ Below w.heap.size w w' := by
  have hb0 := ((Below.refl w.heap.size w).alloc (Nat.le_refl _) (.cells (plnC p (.slice A1 p.trigs.length c1)) 42))
  have HB := Lib.hid (hb0.alloc hb0.size (.cells (plnC p (.slice A2 p.trigs.length c2)) 42))
  have hx1 := (Tide.At.made w 42 (plnC p (.slice A1 p.trigs.length c1))).alloc (.cells (plnC p (.slice A2 p.trigs.length c2)) 42)
  have hx2 := Tide.At.made (w.alloc (.cells (plnC p (.slice A1 p.trigs.length c1)) 42)) 42 (plnC p (.slice A2 p.trigs.length c2))
  simp only [World.size_alloc] at hx2
  have HX1 := Lib.hid hx1; have HX2 := Lib.hid hx2
  have HE := Lib.hid (fun (W : World) (hb : Below w.heap.size w W) => trg_equal _ _ p.trigs W (h1.below hb (Nat.le_refl _)) (h2.below hb (Nat.le_refl _)) hl)
  clear hb0 hx1 hx2 h1 h2
  unfold plnC at HX1 HX2 HB ⊢
  go_enter Tryd.func23, Tryd.ntmps23
  go_wp2_with fail
  refine (HE.out _ HB.out).mono ?_
  rintro e w3 ⟨rfl, hc⟩
  have HF := Lib.hid (HB.out.trans (hc.below HB.out.size (fun _ _ h => h)))
  clear hc
  go_wp2_with fail
  go_ret
  exact ⟨rfl, HF.out⟩
end Go.Proofs.YthelnkoohbnjpaaDoor
