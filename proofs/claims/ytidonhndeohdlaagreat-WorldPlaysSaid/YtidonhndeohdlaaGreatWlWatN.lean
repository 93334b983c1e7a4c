/- The contract of the reference's NewWatch. -/
import Derived.Test.YtidonhndeohdlaaGreatWlLopI
import Derived.Test.YtidonhndeohdlaaGreatWl15
set_option linter.unusedVariables false
set_option linter.unusedSimpArgs false
set_option maxRecDepth 100000
set_option maxHeartbeats 12800000
namespace Go.Proofs.YtidonhndeohdlaaGreat
open Go.RowKit
theorem wat_built (name : ByteArray) (mn mx poll cool tol back after shift u0 u1 u2 u3 d0 d1 d2 d3 : Int) (At : Option Addr) (n capt gs h : Nat) : Tryz.prog.built 94 [(0, .agg #[.string name, .int .i64 mn, .int .i64 mx, .int .i64 poll, .int .i64 cool, .int .i64 tol, .int .i64 back, .int .i64 after, .int .i64 shift, .int .i64 u0, .int .i64 u1, .int .i64 u2, .int .i64 u3, .int .i64 d0, .int .i64 d1, .int .i64 d2, .int .i64 d3, .slice At n capt]), (1, .pointer (some ⟨gs, 0, none⟩)), (2, .slice (some ⟨h, 0, none⟩) n n), (6, .int .i64 (-1))] = some #[.string name, .int .i64 mn, .int .i64 mx, .int .i64 poll, .int .i64 cool, .int .i64 tol, .int .i64 back, .int .i64 after, .int .i64 shift, .int .i64 u0, .int .i64 u1, .int .i64 u2, .int .i64 u3, .int .i64 d0, .int .i64 d1, .int .i64 d2, .int .i64 d3, .slice At n capt, .pointer (some ⟨gs, 0, none⟩), .slice (some ⟨h, 0, none⟩) n n, .bool false, .int .i64 0, .int .i64 0, .int .i64 (-1)] := by kernel_rfl
def NewWatPost (RT : Nat → Prop) (w : World) (p : Pln) (vt : Value) (e : Ending) (w' : World) : Prop :=
 ∃ (g gs : Nat) (vf : Value) (S1 S2 : Nat → Prop), e = .returned (.pointer (some ⟨g, 0, none⟩)) ∧ WatAt RT S1 S2 w' g gs vt vf (.slice none 0 0) (.slice none 0 0) (newLp p) ∧ (∀ b, S1 b → w.heap.size ≤ b) ∧ (∀ b, S2 b → w.heap.size ≤ b) ∧ Below w.heap.size w w'
theorem wat_made {RT : Nat → Prop} {w wb : World} {p : Pln} {vt vf : Value} {gs : Nat} {S2 : Nat → Prop} (ht : TrgIn RT w vt p.trigs) (hr : ∀ b, RT b → b < w.heap.size)
  (hf : G.OwnRow (fun b => w.heap.size ≤ b) wb 3 1 vf p.trigs.length ((List.replicate p.trigs.length 0).map (Value.int .i64))) (hs : StbAt 166 198 S2 wb gs (G.newStb p.up p.down) (.slice none 0 0) (.slice none 0 0))
  (h2 : ∀ b, S2 b → w.heap.size ≤ b) (hvf : ∀ b, vf.ownBlock = some b → ¬ S2 b) (hb : Below w.heap.size w wb) :
  NewWatPost RT w p vt (.returned (.pointer (some ⟨wb.heap.size, 0, none⟩))) (wb.alloc (.cells (lopCells (newLp p) gs vt vf) 94)) := by
 have h1 : ∀ b, (b = wb.heap.size ∨ vf.ownBlock = some b) → w.heap.size ≤ b := fun b hb3 => by
  rcases hb3 with rfl | hb3
  ·exact hb.size
  exact (hf.block b hb3).1
 refine ⟨_, gs, vf, (fun b => b = wb.heap.size ∨ vf.ownBlock = some b), S2, rfl, ⟨G.At.made _ _ _, ?_, ?_, hs.alloc _, .inl rfl, ?_, ?_, fun b hb3 => ⟨fun h => ?_, fun h => ?_⟩⟩, h1, h2, hb.alloc hb.size _⟩
 ·exact ht.chg (C := fun _ => False) (G.Chg.of_below (hb.alloc hb.size _) (Nat.le_refl _)) (fun _ _ h => h)
 ·show G.OwnRow _ _ _ 1 vf (List.replicate p.trigs.length 0).length ((List.replicate p.trigs.length 0).map (Value.int .i64))
  rw [List.length_replicate]
  exact G.OwnRow.of_owns (hf.alloc _).owns fun b hb => .inr hb
 ·intro b hb hb2
  rcases hb with rfl | hb
  ·exact Nat.lt_irrefl _ (hs.lim _ hb2)
  exact hvf b hb hb2
 ·intro b hb
  simp only [World.size_alloc]
  rcases hb with rfl | hb
  ·omega
  have := (hf.block b hb).2; omega
 ·have := hr b hb3; have := h1 b h; omega
 have := hr b hb3; have := h2 b h; omega
theorem wat_endA {RT : Nat → Prop} {w W5 w6 : World} {p : Pln} {vt : Value} {gs : Nat} (hfew : p.trigs.length ≤ 5) (hb : Below w.heap.size w W5) (ht : TrgIn RT w vt p.trigs) (hr : ∀ b, RT b → b < w.heap.size)
  (hs : StbAt 166 198 (G.Plus (fun _ => False) W5.drew w6) w6 gs (G.newStb p.up p.down) (.slice none 0 0) (.slice none 0 0)) (hb6 : Below W5.drew.heap.size W5.drew w6) :
  NewWatPost RT w p vt (.returned (.pointer (some ⟨w6.heap.size + 1, 0, none⟩))) ((w6.alloc (.cells (Array.replicate p.trigs.length (Value.int .i64 0)) 3)).alloc (.cells (lopCells (newLp p) gs vt (.slice (some ⟨w6.heap.size, 0, none⟩) p.trigs.length p.trigs.length)) 94)) := by
 have hb7 : Below w.heap.size w w6 := hb.drew.trans (Below.mono hb6 hb.size)
 have hz : W5.heap.size ≤ w6.heap.size := hb6.size
 have h := wat_made (gs := gs) ht hr (lop_zero_row w6 p.trigs.length (S := fun b => w.heap.size ≤ b) hb7.size (by omega)) (hs.alloc _) (fun b hb2 => by
   rcases hb2 with hb2 | hb2
   ·exact hb2.elim
   ·have : W5.heap.size ≤ b := hb2.1
    have := hb.size; omega) (fun b hv hb2 => by
   simp [Value.ownBlock] at hv
   rcases hb2 with hb2 | hb2
   ·exact hb2.elim
   have := hb2.2; omega) (hb7.alloc hb7.size _)
 rw [show w6.heap.size + 1 = (w6.alloc (.cells (Array.replicate p.trigs.length (Value.int .i64 0)) 3)).heap.size by simp]
 exact h
theorem wat_endB {RT : Nat → Prop} {w W5 w6 : World} {p : Pln} {vt : Value} {gs : Nat} (hfew : p.trigs.length ≤ 5) (hb : Below w.heap.size w W5) (ht : TrgIn RT w vt p.trigs) (hr : ∀ b, RT b → b < w.heap.size)
  (hs : StbAt 166 198 (G.Plus (fun _ => False) (W5.alloc (.cells (Array.replicate p.trigs.length (Value.int .i64 0)) 3)).drew w6) w6 gs (G.newStb p.up p.down) (.slice none 0 0) (.slice none 0 0)) (hb6 : Below (W5.alloc (.cells (Array.replicate p.trigs.length (Value.int .i64 0)) 3)).drew.heap.size (W5.alloc (.cells (Array.replicate p.trigs.length (Value.int .i64 0)) 3)).drew w6) :
  NewWatPost RT w p vt (.returned (.pointer (some ⟨w6.heap.size, 0, none⟩))) (w6.alloc (.cells (lopCells (newLp p) gs vt (.slice (some ⟨W5.heap.size, 0, none⟩) p.trigs.length p.trigs.length)) 94)) := by
 have e : (W5.alloc (.cells (Array.replicate p.trigs.length (Value.int .i64 0)) 3)).heap.size = W5.heap.size + 1 := by simp
 have hba : Below w.heap.size w (W5.alloc (.cells (Array.replicate p.trigs.length (Value.int .i64 0)) 3)).drew := (hb.alloc hb.size _).drew
 have hb7 : Below w.heap.size w w6 := hba.trans (Below.mono hb6 hba.size)
 have hf6 := G.OwnRow.below (w := (W5.alloc (.cells (Array.replicate p.trigs.length (Value.int .i64 0)) 3)).drew) (lop_zero_row W5 p.trigs.length (S := fun b => w.heap.size ≤ b) hb.size (by omega)) hb6 (Nat.le_refl _)
 exact wat_made (gs := gs) ht hr hf6 hs (fun b hb2 => by
   rcases hb2 with hb2 | hb2
   ·exact hb2.elim
   ·have : (W5.alloc (.cells (Array.replicate p.trigs.length (Value.int .i64 0)) 3)).heap.size ≤ b := hb2.1
    have := hb.size; omega) (fun b hv hb2 => by
   simp [Value.ownBlock] at hv
   rcases hb2 with hb2 | hb2
   ·exact hb2.elim
   have : (W5.alloc (.cells (Array.replicate p.trigs.length (Value.int .i64 0)) 3)).heap.size ≤ b := hb2.1
   omega) hb7
theorem watNew (RT : Nat → Prop) (p : Pln) (A : Option Addr) (cap : Nat) (w : World) (ht : TrgIn RT w (.slice A p.trigs.length cap) p.trigs) (hr : ∀ b, RT b → b < w.heap.size) (hE : planE p = 0) :
  Calls Tryz.prog 17 #[plnV p (.slice A p.trigs.length cap)] w (NewWatPost RT w p (.slice A p.trigs.length cap)) := by
 have hfew := (planE_ok hE).few
 obtain ⟨name, mn, mx, poll, cool, tol, back, after, shift, ⟨u0, u1, u2, u3⟩, ⟨d0, d1, d2, d3⟩, ts⟩ := p
 change ts.length ≤ 5 at hfew
 show Calls Tryz.prog 17 #[.agg #[.string name, .int .i64 mn, .int .i64 mx, .int .i64 poll, .int .i64 cool, .int .i64 tol, .int .i64 back, .int .i64 after, .int .i64 shift, .int .i64 u0, .int .i64 u1, .int .i64 u2, .int .i64 u3, .int .i64 d0, .int .i64 d1, .int .i64 d2, .int .i64 d3, .slice A ts.length cap]] w (NewWatPost RT w ⟨name, mn, mx, poll, cool, tol, back, after, shift, ⟨u0, u1, u2, u3⟩, ⟨d0, d1, d2, d3⟩, ts⟩ (.slice A ts.length cap))
 have HB1 := J ((Below.refl w.heap.size w).alloc (Nat.le_refl _) (.cells #[.string name, .int .i64 mn, .int .i64 mx, .int .i64 poll, .int .i64 cool, .int .i64 tol, .int .i64 back, .int .i64 after, .int .i64 shift, .int .i64 u0, .int .i64 u1, .int .i64 u2, .int .i64 u3, .int .i64 d0, .int .i64 d1, .int .i64 d2, .int .i64 d3, .slice A ts.length cap] 26))
 have HX1 := J (G.At.made w 26 #[.string name, .int .i64 mn, .int .i64 mx, .int .i64 poll, .int .i64 cool, .int .i64 tol, .int .i64 back, .int .i64 after, .int .i64 shift, .int .i64 u0, .int .i64 u1, .int .i64 u2, .int .i64 u3, .int .i64 d0, .int .i64 d1, .int .i64 d2, .int .i64 d3, .slice A ts.length cap])
 have HT1 := J (show TrgIn RT w (.slice A ts.length cap) ts from ht)
 have HRt := J hr
 have HFew := J hfew
 have hm0 : (0 : Int) ≤ (ts.length : Int) := by omega
 have hm1 : (ts.length : Int) ≤ 5 := by omega
 have HmkW := J (lop_make ts.length (by omega))
 clear ht hr hE hfew
 go_enter Tryz.func17, Tryz.ntmps17
 go_upto_region 1 with fail
 generalize w.alloc (.cells #[.string name, .int .i64 mn, .int .i64 mx, .int .i64 poll, .int .i64 cool, .int .i64 tol, .int .i64 back, .int .i64 after, .int .i64 shift, .int .i64 u0, .int .i64 u1, .int .i64 u2, .int .i64 u3, .int .i64 d0, .int .i64 d1, .int .i64 d2, .int .i64 d3, .slice A ts.length cap] 26) = W1 at HB1 HX1 ⊢
 have hS : G.At W1.drew w.heap.size 26 #[.string name, .int .i64 mn, .int .i64 mx, .int .i64 poll, .int .i64 cool, .int .i64 tol, .int .i64 back, .int .i64 after, .int .i64 shift, .int .i64 u0, .int .i64 u1, .int .i64 u2, .int .i64 u3, .int .i64 d0, .int .i64 d1, .int .i64 d2, .int .i64 d3, .slice A ts.length cap] := HX1.u.drew
 as_aux_lemma =>
 refine wp_region_held_drew (S := fun W => G.At W w.heap.size 26 #[.string name, .int .i64 mn, .int .i64 mx, .int .i64 poll, .int .i64 cool, .int .i64 tol, .int .i64 back, .int .i64 after, .int .i64 shift, .int .i64 u0, .int .i64 u1, .int .i64 u2, .int .i64 u3, .int .i64 d0, .int .i64 d1, .int .i64 d2, .int .i64 d3, .slice A ts.length cap]) (by kernel_rfl) hS (fun hh => ?_)
 clear hh
 change wpAnyH _ _ _ _ _ 13 #[false, false, false, false, false, false, false, false, false, false, false, false, false] _ (World.drew _)
 refine tq 0 (.agg #[.string name, .int .i64 mn, .int .i64 mx, .int .i64 poll, .int .i64 cool, .int .i64 tol, .int .i64 back, .int .i64 after, .int .i64 shift, .int .i64 u0, .int .i64 u1, .int .i64 u2, .int .i64 u3, .int .i64 d0, .int .i64 d1, .int .i64 d2, .int .i64 d3, .slice A ts.length cap]) rfl (fun W hW => ?_) hS ?_
 ·exact exec_load_row rfl rfl hW Tryz.underlying26 rfl (by kernel_rfl)
 simp only [Act.put, tkS]
 refine tq 1 (.pointer (some ⟨w.heap.size, 9, none⟩)) rfl (fun W hW => ?_) hS ?_
 ·clear hW; go_simp
 simp only [Act.put, tkS]
 refine tq 2 (.agg #[.int .i64 u0, .int .i64 u1, .int .i64 u2, .int .i64 u3]) rfl (fun W hW => ?_) hS ?_
 ·have z9 : W.cell? ⟨w.heap.size, 9, none⟩ = some (.int .i64 u0) := hW.here rfl; have z10 : W.cell? ⟨w.heap.size, 10, none⟩ = some (.int .i64 u1) := hW.here rfl; have z11 : W.cell? ⟨w.heap.size, 11, none⟩ = some (.int .i64 u2) := hW.here rfl; have z12 : W.cell? ⟨w.heap.size, 12, none⟩ = some (.int .i64 u3) := hW.here rfl; clear hW; go_simp
 simp only [Act.put, tkS]
 refine tq 3 (.pointer (some ⟨w.heap.size, 13, none⟩)) rfl (fun W hW => ?_) hS ?_
 ·clear hW; go_simp
 simp only [Act.put, tkS]
 refine tq 4 (.agg #[.int .i64 d0, .int .i64 d1, .int .i64 d2, .int .i64 d3]) rfl (fun W hW => ?_) hS ?_
 ·have z13 : W.cell? ⟨w.heap.size, 13, none⟩ = some (.int .i64 d0) := hW.here rfl; have z14 : W.cell? ⟨w.heap.size, 14, none⟩ = some (.int .i64 d1) := hW.here rfl; have z15 : W.cell? ⟨w.heap.size, 15, none⟩ = some (.int .i64 d2) := hW.here rfl; have z16 : W.cell? ⟨w.heap.size, 16, none⟩ = some (.int .i64 d3) := hW.here rfl; clear hW; go_simp
 simp only [Act.put, tkS]
 refine tq 6 (.pointer (some ⟨w.heap.size, 17, none⟩)) rfl (fun W hW => ?_) hS ?_
 ·clear hW; go_simp
 simp only [Act.put, tkS]
 refine tq 7 (.slice A ts.length cap) rfl (fun W hW => ?_) hS ?_
 ·have z17 : W.cell? ⟨w.heap.size, 17, none⟩ = some (.slice A ts.length cap) := hW.here rfl; clear hW; go_simp
 simp only [Act.put, tkS]
 refine tq 8 (.int .i64 (ts.length : Int)) rfl (fun W hW => ?_) hS ?_
 ·clear hW; go_simp
 simp only [Act.put, tkS]
 refine wpAnyH_ready (rs := [5, 9]) (by kernel_rfl) (by simp) (AllReadyH.cons rfl (fun K hK => ?_) (AllReadyH.cons rfl (fun K hK => ?_) AllReadyH.nil))
 ·go_simp
  refine (calNew ⟨u0, u1, u2, u3⟩ ⟨d0, d1, d2, d3⟩ _).mono ?_
  rintro e w6 ⟨gs, rfl, hs6, hb6⟩
  have HS6 := J hs6; have HB6 := J hb6
  have hS2 : G.At w6 w.heap.size 26 #[.string name, .int .i64 mn, .int .i64 mx, .int .i64 poll, .int .i64 cool, .int .i64 tol, .int .i64 back, .int .i64 after, .int .i64 shift, .int .i64 u0, .int .i64 u1, .int .i64 u2, .int .i64 u3, .int .i64 d0, .int .i64 d1, .int .i64 d2, .int .i64 d3, .slice A ts.length cap] := hS.below hb6 hS.inside
  clear hs6 hb6
  go_wp2_with fail
  refine hK.out _ _ hS2 (fun hh => ?_)
  clear hh hK K
  have hmk := HmkW.u
  refine wpAnyH_ready (rs := [9]) (by kernel_rfl) (by simp) (AllReadyH.cons rfl (fun K hK => ?_) AllReadyH.nil)
  go_simp
  have hS3 := hS2.alloc (.cells (Array.replicate ts.length (Value.int .i64 0)) 3)
  refine hK.out _ _ hS3 (fun hh => ?_)
  clear hh hK K hmk
  refine tq 10 (.agg #[.string name, .int .i64 mn, .int .i64 mx, .int .i64 poll, .int .i64 cool, .int .i64 tol, .int .i64 back, .int .i64 after, .int .i64 shift, .int .i64 u0, .int .i64 u1, .int .i64 u2, .int .i64 u3, .int .i64 d0, .int .i64 d1, .int .i64 d2, .int .i64 d3, .slice A ts.length cap, .pointer (some ⟨gs, 0, none⟩), .slice (some ⟨w6.heap.size, 0, none⟩) ts.length ts.length, .bool false, .int .i64 0, .int .i64 0, .int .i64 (-1)]) rfl (fun W hW => ?_) hS3 ?_
  ·exact exec_build rfl rfl (wat_built name mn mx poll cool tol back after shift u0 u1 u2 u3 d0 d1 d2 d3 A ts.length cap gs _)
  simp only [Act.put, tkS]
  refine wpAnyH_ready (rs := [11]) (by kernel_rfl) (by simp) (AllReadyH.cons rfl (fun K hK => ?_) AllReadyH.nil)
  go_simp
  have hS4 := hS3.alloc (.cells #[.string name, .int .i64 mn, .int .i64 mx, .int .i64 poll, .int .i64 cool, .int .i64 tol, .int .i64 back, .int .i64 after, .int .i64 shift, .int .i64 u0, .int .i64 u1, .int .i64 u2, .int .i64 u3, .int .i64 d0, .int .i64 d1, .int .i64 d2, .int .i64 d3, .slice A ts.length cap, .pointer (some ⟨gs, 0, none⟩), .slice (some ⟨w6.heap.size, 0, none⟩) ts.length ts.length, .bool false, .int .i64 0, .int .i64 0, .int .i64 (-1)] 94)
  refine hK.out _ _ hS4 (fun hh => ?_)
  clear hh hK K
  refine tq 12 (.pointer (some ⟨w6.heap.size + 1, 0, none⟩)) rfl (fun W hW => ?_) hS4 ?_
  ·clear hW; go_simp
  simp only [Act.put, tkS]
  refine wpAnyH_done (by kernel_rfl) ?_ _
  clear hS hS2 hS3 hS4
  go_wp2_with fail
  go_ret
  exact wat_endA (p := ⟨name, mn, mx, poll, cool, tol, back, after, shift, ⟨u0, u1, u2, u3⟩, ⟨d0, d1, d2, d3⟩, ts⟩) HFew.u HB1.u HT1.u HRt.u HS6.u HB6.u
 have hmk := HmkW.u
 go_simp
 have hS2 := hS.alloc (.cells (Array.replicate ts.length (Value.int .i64 0)) 3)
 refine hK.out _ _ hS2 (fun hh => ?_)
 clear hh hK K hmk
 refine wpAnyH_ready (rs := [5]) (by kernel_rfl) (by simp) (AllReadyH.cons rfl (fun K hK => ?_) AllReadyH.nil)
 go_simp
 refine (calNew ⟨u0, u1, u2, u3⟩ ⟨d0, d1, d2, d3⟩ _).mono ?_
 rintro e w6 ⟨gs, rfl, hs6, hb6⟩
 have HS6 := J hs6; have HB6 := J hb6
 have hS3 : G.At w6 w.heap.size 26 #[.string name, .int .i64 mn, .int .i64 mx, .int .i64 poll, .int .i64 cool, .int .i64 tol, .int .i64 back, .int .i64 after, .int .i64 shift, .int .i64 u0, .int .i64 u1, .int .i64 u2, .int .i64 u3, .int .i64 d0, .int .i64 d1, .int .i64 d2, .int .i64 d3, .slice A ts.length cap] := hS2.below hb6 hS2.inside
 clear hs6 hb6
 go_wp2_with fail
 refine hK.out _ _ hS3 (fun hh => ?_)
 clear hh hK K
 refine tq 10 (.agg #[.string name, .int .i64 mn, .int .i64 mx, .int .i64 poll, .int .i64 cool, .int .i64 tol, .int .i64 back, .int .i64 after, .int .i64 shift, .int .i64 u0, .int .i64 u1, .int .i64 u2, .int .i64 u3, .int .i64 d0, .int .i64 d1, .int .i64 d2, .int .i64 d3, .slice A ts.length cap, .pointer (some ⟨gs, 0, none⟩), .slice (some ⟨W1.heap.size, 0, none⟩) ts.length ts.length, .bool false, .int .i64 0, .int .i64 0, .int .i64 (-1)]) rfl (fun W hW => ?_) hS3 ?_
 ·exact exec_build rfl rfl (wat_built name mn mx poll cool tol back after shift u0 u1 u2 u3 d0 d1 d2 d3 A ts.length cap gs _)
 simp only [Act.put, tkS]
 refine wpAnyH_ready (rs := [11]) (by kernel_rfl) (by simp) (AllReadyH.cons rfl (fun K hK => ?_) AllReadyH.nil)
 go_simp
 have hS4 := hS3.alloc (.cells #[.string name, .int .i64 mn, .int .i64 mx, .int .i64 poll, .int .i64 cool, .int .i64 tol, .int .i64 back, .int .i64 after, .int .i64 shift, .int .i64 u0, .int .i64 u1, .int .i64 u2, .int .i64 u3, .int .i64 d0, .int .i64 d1, .int .i64 d2, .int .i64 d3, .slice A ts.length cap, .pointer (some ⟨gs, 0, none⟩), .slice (some ⟨W1.heap.size, 0, none⟩) ts.length ts.length, .bool false, .int .i64 0, .int .i64 0, .int .i64 (-1)] 94)
 refine hK.out _ _ hS4 (fun hh => ?_)
 clear hh hK K
 refine tq 12 (.pointer (some ⟨w6.heap.size, 0, none⟩)) rfl (fun W hW => ?_) hS4 ?_
 ·clear hW; go_simp
 simp only [Act.put, tkS]
 refine wpAnyH_done (by kernel_rfl) ?_ _
 clear hS hS2 hS3 hS4
 go_wp2_with fail
 go_ret
 exact wat_endB (p := ⟨name, mn, mx, poll, cool, tol, back, after, shift, ⟨u0, u1, u2, u3⟩, ⟨d0, d1, d2, d3⟩, ts⟩) HFew.u HB1.u HT1.u HRt.u HS6.u HB6.u
end Go.Proofs.YtidonhndeohdlaaGreat
