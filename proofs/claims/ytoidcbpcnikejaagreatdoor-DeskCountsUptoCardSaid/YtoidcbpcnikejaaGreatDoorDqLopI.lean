/- The contract of loop.New at a plan that is right. -/
import Derived.Test.YtoidcbpcnikejaaGreatDoorDq27
set_option linter.unusedVariables false
set_option linter.unusedSimpArgs false
set_option maxRecDepth 100000
set_option maxHeartbeats 12800000
namespace Go.Proofs.YtoidcbpcnikejaaGreatDoor
open Go.RowKit
theorem exec_load_row {P : Program} {ev : Operand → Value} {o : Oper} {ty t : TypeId} {x : Operand} {g : Nat} {cs : Array Value} {d : TypeDesc} {W : World} (ho : o.op = .load ty x) (hx : ev x = .pointer (some ⟨g, 0, none⟩)) (hg : W.heap[g]? = some (.cells cs t (0, 0)))
  (hu : P.underlying ty = some d) (hd : (match d with | .struct _ | .array _ _ => true | _ => false) = true) (hi : (P.info? ty).map (·.size) = some cs.size) : (execOp ev o).run P W = .ok (.value (.agg cs)) W := by
 unfold execOp
 simp only [ho, hx, Instr.loadAt, Instr.sureAddr, Sem.run_bind, Sem.run_pure, Result.andThen_ok, run_loadVar_row W g t ty cs (0, 0) d hg hu hd hi]
theorem exec_build {P : Program} {ev : Operand → Value} {o : Oper} {t : TypeId} {parts : Array (Nat × Operand)} {l : List (Nat × Value)} {cells : Array Value} {W : World} (ho : o.op = .build t parts) (hp : parts.toList.map (fun y => (y.1, ev y.2)) = l) (h : P.built t l = some cells) : (execOp ev o).run P W = .ok (.value (.agg cells)) W := by
 subst hp
 rw [← Array.toList_map] at h
 unfold execOp
 simp only [ho, Sem.run_bind, Sem.run_pure, Result.andThen_ok, run_build W t _ cells h]
theorem lop_built (name : ByteArray) (mn mx poll cool tol back after shift u0 u1 u2 u3 d0 d1 d2 d3 : Int) (At : Option Addr) (n capt gs h : Nat) : Tryz.prog.built 219 [(0, .agg #[.string name, .int .i64 mn, .int .i64 mx, .int .i64 poll, .int .i64 cool, .int .i64 tol, .int .i64 back, .int .i64 after, .int .i64 shift, .int .i64 u0, .int .i64 u1, .int .i64 u2, .int .i64 u3, .int .i64 d0, .int .i64 d1, .int .i64 d2, .int .i64 d3, .slice At n capt]), (1, .pointer (some ⟨gs, 0, none⟩)), (2, .slice (some ⟨h, 0, none⟩) n n), (6, .int .i64 (-1))] = some #[.string name, .int .i64 mn, .int .i64 mx, .int .i64 poll, .int .i64 cool, .int .i64 tol, .int .i64 back, .int .i64 after, .int .i64 shift, .int .i64 u0, .int .i64 u1, .int .i64 u2, .int .i64 u3, .int .i64 d0, .int .i64 d1, .int .i64 d2, .int .i64 d3, .slice At n capt, .pointer (some ⟨gs, 0, none⟩), .slice (some ⟨h, 0, none⟩) n n, .bool false, .int .i64 0, .int .i64 0, .int .i64 (-1)] := by kernel_rfl
theorem lop_info : (Tryz.prog.info? 3).map (fun i => (i.zero, i.size, i.bytes)) = some (some (.int .i64 0), 1, 8) := by kernel_rfl
theorem lop_zeros (n : Nat) : madeCells #[.int .i64 0] n = Array.replicate n (Value.int .i64 0) := by
 unfold madeCells
 apply Array.ext
 ·simp
 intro i h1 h2
 simp [Nat.mod_one]
theorem lop_make (m : Nat) (h : (m : Int) ≤ 20) : ∀ W : World, (Instr.makeSlice 82 (.int .i64 (m : Int)) (.int .i64 (m : Int))).run Tryz.prog W = .ok (.slice (some ⟨W.heap.size, 0, none⟩) m m) (W.alloc (.cells (Array.replicate m (Value.int .i64 0)) 3)) := fun W => by
 obtain ⟨i0, hi, hz0, hz1, hz2⟩ := info_parts lop_info
 have := run_make (P := Tryz.prog) W 82 3 i0 _ Tryz.underlying82 hi hz0 .i64 .i64 m m (by omega) (by omega) (by rw [hz2]; omega) (by omega)
 rw [Int.toNat_natCast, hz1] at this
 rw [this, Nat.mul_one, ← lop_zeros]
 rfl
theorem lop_zero_row {S : Nat → Prop} (W : World) (n : Nat) (hS : S W.heap.size) (hn : n ≤ 1000000) :
  G.OwnRow S (W.alloc (.cells (Array.replicate n (Value.int .i64 0)) 3)) 3 1 (.slice (some ⟨W.heap.size, 0, none⟩) n n) n ((List.replicate n (0 : Int)).map (Value.int .i64)) := by
 refine ⟨by simp, .inr ⟨_, n, rfl, hS, Nat.le_refl _, by simp only [maxLen]; omega, ?_⟩⟩
 have := (G.At.made W 3 (Array.replicate n (Value.int .i64 0))).row
 simpa using this
theorem lop_endA {T TS TM : TypeId} {w W5 w6 : World} {p : Pln} {vt : Value} {gs : Nat} (hfew : p.trigs.length ≤ 5) (hb : Below w.heap.size w W5) (ht : G.OwnRow (fun b => w.heap.size ≤ b) W5 171 17 vt p.trigs.length (p.trigs.flatMap Trg.enc))
  (hs : StbAt TS TM (G.Plus (fun _ => False) W5.drew w6) w6 gs (G.newStb p.up p.down) (.slice none 0 0) (.slice none 0 0)) (hb6 : Below W5.drew.heap.size W5.drew w6) (hT : 171 ≠ T := by decide) :
  NewLopPost T TS TM w p (.returned (.tuple #[.pointer (some ⟨w6.heap.size + 1, 0, none⟩), .int .i64 0])) ((w6.alloc (.cells (Array.replicate p.trigs.length (Value.int .i64 0)) 3)).alloc (.cells (lopCells (newLp p) gs vt (.slice (some ⟨w6.heap.size, 0, none⟩) p.trigs.length p.trigs.length)) T)) := by
 have hb7 : Below w.heap.size w w6 := hb.drew.trans (Below.mono hb6 hb.size)
 have hz : W5.heap.size ≤ w6.heap.size := hb6.size
 have ht6 := (G.OwnRow.below (w := W5.drew) ht hb6 (Nat.le_refl _)).alloc (.cells (Array.replicate p.trigs.length (Value.int .i64 0)) 3)
 have h := lop_made (T := T) (TS := TS) (TM := TM) (gs := gs) hT ht6 (lop_zero_row w6 p.trigs.length (S := fun b => w.heap.size ≤ b) hb7.size (by omega)) (hs.alloc _) (fun b hb2 => by
   rcases hb2 with hb2 | hb2
   ·exact hb2.elim
   ·have : W5.heap.size ≤ b := hb2.1
    have := hb.size; omega) (fun b hv hb2 => by
   rcases hb2 with hb2 | hb2
   ·exact hb2.elim
   ·have : W5.heap.size ≤ b := hb2.1
    have := (ht.block b hv).2; omega) (fun b hv hb2 => by
   simp [Value.ownBlock] at hv
   rcases hb2 with hb2 | hb2
   ·exact hb2.elim
   have := hb2.2; omega) (hb7.alloc hb7.size _)
 rw [show w6.heap.size + 1 = (w6.alloc (.cells (Array.replicate p.trigs.length (Value.int .i64 0)) 3)).heap.size by simp]
 exact h
theorem lop_endB {T TS TM : TypeId} {w W5 w6 : World} {p : Pln} {vt : Value} {gs : Nat} (hfew : p.trigs.length ≤ 5) (hb : Below w.heap.size w W5) (ht : G.OwnRow (fun b => w.heap.size ≤ b) W5 171 17 vt p.trigs.length (p.trigs.flatMap Trg.enc))
  (hs : StbAt TS TM (G.Plus (fun _ => False) (W5.alloc (.cells (Array.replicate p.trigs.length (Value.int .i64 0)) 3)).drew w6) w6 gs (G.newStb p.up p.down) (.slice none 0 0) (.slice none 0 0)) (hb6 : Below (W5.alloc (.cells (Array.replicate p.trigs.length (Value.int .i64 0)) 3)).drew.heap.size (W5.alloc (.cells (Array.replicate p.trigs.length (Value.int .i64 0)) 3)).drew w6) (hT : 171 ≠ T := by decide) :
  NewLopPost T TS TM w p (.returned (.tuple #[.pointer (some ⟨w6.heap.size, 0, none⟩), .int .i64 0])) (w6.alloc (.cells (lopCells (newLp p) gs vt (.slice (some ⟨W5.heap.size, 0, none⟩) p.trigs.length p.trigs.length)) T)) := by
 have e : (W5.alloc (.cells (Array.replicate p.trigs.length (Value.int .i64 0)) 3)).heap.size = W5.heap.size + 1 := by simp
 have hba : Below w.heap.size w (W5.alloc (.cells (Array.replicate p.trigs.length (Value.int .i64 0)) 3)).drew := (hb.alloc hb.size _).drew
 have hb7 : Below w.heap.size w w6 := hba.trans (Below.mono hb6 hba.size)
 have ht6 := G.OwnRow.below (w := (W5.alloc (.cells (Array.replicate p.trigs.length (Value.int .i64 0)) 3)).drew) (ht.alloc (.cells (Array.replicate p.trigs.length (Value.int .i64 0)) 3)) hb6 (Nat.le_refl _)
 have hf6 := G.OwnRow.below (w := (W5.alloc (.cells (Array.replicate p.trigs.length (Value.int .i64 0)) 3)).drew) (lop_zero_row W5 p.trigs.length (S := fun b => w.heap.size ≤ b) hb.size (by omega)) hb6 (Nat.le_refl _)
 exact lop_made (T := T) (TS := TS) (TM := TM) (gs := gs) hT ht6 hf6 hs (fun b hb2 => by
   rcases hb2 with hb2 | hb2
   ·exact hb2.elim
   ·have : (W5.alloc (.cells (Array.replicate p.trigs.length (Value.int .i64 0)) 3)).heap.size ≤ b := hb2.1
    have := hb.size; omega) (fun b hv hb2 => by
   rcases hb2 with hb2 | hb2
   ·exact hb2.elim
   ·have : (W5.alloc (.cells (Array.replicate p.trigs.length (Value.int .i64 0)) 3)).heap.size ≤ b := hb2.1
    have := (ht.block b hv).2; omega) (fun b hv hb2 => by
   simp [Value.ownBlock] at hv
   rcases hb2 with hb2 | hb2
   ·exact hb2.elim
   have : (W5.alloc (.cells (Array.replicate p.trigs.length (Value.int .i64 0)) 3)).heap.size ≤ b := hb2.1
   omega) hb7
theorem lopNewYes (p : Pln) (A : Option Addr) (cap : Nat) (w : World) (ht : G.ListIn w 17 Trg.enc (.slice A p.trigs.length cap) p.trigs) (hf : ∀ t ∈ p.trigs, t.fits) (hn : p.name.size ≤ 9223372036854775807) (hl : p.trigs.length ≤ 9223372036854775807) (hE : planE p = 0) :
  Calls Tryz.prog 78 #[plnV p (.slice A p.trigs.length cap)] w (NewLopPost 219 257 290 w p) := by
 obtain ⟨name, mn, mx, poll, cool, tol, back, after, shift, ⟨u0, u1, u2, u3⟩, ⟨d0, d1, d2, d3⟩, ts⟩ := p
 unfold plnV
 have hfew : ts.length ≤ 5 := (planE_ok hE).few
 simp only at ht hf hn hl hE ⊢
 have HB := J ((Below.refl w.heap.size w).alloc (Nat.le_refl _) (.cells #[.string name, .int .i64 mn, .int .i64 mx, .int .i64 poll, .int .i64 cool, .int .i64 tol, .int .i64 back, .int .i64 after, .int .i64 shift, .int .i64 u0, .int .i64 u1, .int .i64 u2, .int .i64 u3, .int .i64 d0, .int .i64 d1, .int .i64 d2, .int .i64 d3, .slice A ts.length cap] 101))
 have HX := J (G.At.made w 101 #[.string name, .int .i64 mn, .int .i64 mx, .int .i64 poll, .int .i64 cool, .int .i64 tol, .int .i64 back, .int .i64 after, .int .i64 shift, .int .i64 u0, .int .i64 u1, .int .i64 u2, .int .i64 u3, .int .i64 d0, .int .i64 d1, .int .i64 d2, .int .i64 d3, .slice A ts.length cap])
 have HC := J (fun (W : World) (hb : Below w.heap.size w W) => planCheck name mn mx poll cool tol back after shift u0 u1 u2 u3 d0 d1 d2 d3 A cap ts W (ht.below hb (Nat.le_refl _)) hf hn hl)
 have HL := J (fun (W : World) (hb : Below w.heap.size w W) => trgClone W A cap ts (ht.below hb (Nat.le_refl _)) (by omega))
 rw [hE] at HC
 have HFew := J hfew
 have hm0 : (0 : Int) ≤ (ts.length : Int) := by omega
 have hm1 : (ts.length : Int) ≤ 5 := by omega
 clear ht hf hn hl hE hfew
 go_enter Tryz.func78, Tryz.ntmps78
 go_upto_region 1 with fail
 have HCx := J (HC.u _ HB.u)
 generalize w.alloc (.cells #[.string name, .int .i64 mn, .int .i64 mx, .int .i64 poll, .int .i64 cool, .int .i64 tol, .int .i64 back, .int .i64 after, .int .i64 shift, .int .i64 u0, .int .i64 u1, .int .i64 u2, .int .i64 u3, .int .i64 d0, .int .i64 d1, .int .i64 d2, .int .i64 d3, .slice A ts.length cap] 101) = W at HB HX HCx ⊢
 clear HC
 go_wp2_with (refine wpList_load_row rfl 101 (.tmp 1) rfl w.heap.size rfl 101 _ (0, 0) _ HX.u Tryz.underlying101 rfl (by kernel_rfl) ?_)
 refine HCx.u.mono ?_
 rintro e w1 ⟨rfl, hb1⟩
 have HB1 := J (HB.u.trans (hb1.mono HB.u.size))
 have HX1 := J (HX.u.below hb1 HX.u.inside)
 clear hb1 HCx HX HB
 have x17 := HX1.u.here (i := 17) rfl
 have p17 := HX1.u.soft 17
 go_wp2_with fail
 refine (HL.u _ HB1.u).mono ?_
 rintro e w2 ⟨vt, rfl, ht2, hb2⟩
 have HZ1 := J HB1.u.size
 obtain ⟨At, capt, rfl, _, _, _⟩ := ht2.slice
 have HB2 := J ((HB1.u.trans (hb2.mono HB1.u.size)).setCell (p := ⟨w.heap.size, 17, none⟩) (Nat.le_refl _) (.slice At ts.length capt))
 have hx2 := HX1.u.below hb2 HX1.u.inside
 have HT2 := J ((ht2.mono (S' := fun b => w.heap.size ≤ b) (fun b _ hb => by have := HZ1.u; omega)).aside (p := ⟨w.heap.size, 17, none⟩) (ht2.apartAt hx2 (by decide)) (.slice At ts.length capt))
 have HX2 : Hid (G.At (w2.setCell ⟨w.heap.size, 17, none⟩ (.slice At ts.length capt)) w.heap.size 101 #[.string name, .int .i64 mn, .int .i64 mx, .int .i64 poll, .int .i64 cool, .int .i64 tol, .int .i64 back, .int .i64 after, .int .i64 shift, .int .i64 u0, .int .i64 u1, .int .i64 u2, .int .i64 u3, .int .i64 d0, .int .i64 d1, .int .i64 d2, .int .i64 d3, .slice At ts.length capt]) := J (hx2.put 17 _)
 clear x17 p17 HL HX1 HB1 ht2 HZ1
 have x17 := hx2.here (i := 17) rfl
 have p17 := hx2.soft 17
 clear hb2 hx2
 go_upto_region 5 with fail
 clear x17 p17
 generalize w2.setCell ⟨w.heap.size, 17, none⟩ (.slice At ts.length capt) = W5 at HB2 HX2 HT2 ⊢
 go_wp2_with fail
 have HmkW := J (lop_make ts.length (by omega))
 have hS : G.At W5.drew w.heap.size 101 #[.string name, .int .i64 mn, .int .i64 mx, .int .i64 poll, .int .i64 cool, .int .i64 tol, .int .i64 back, .int .i64 after, .int .i64 shift, .int .i64 u0, .int .i64 u1, .int .i64 u2, .int .i64 u3, .int .i64 d0, .int .i64 d1, .int .i64 d2, .int .i64 d3, .slice At ts.length capt] := HX2.u.drew
 as_aux_lemma =>
 refine wp_region_held_drew (S := fun W => G.At W w.heap.size 101 #[.string name, .int .i64 mn, .int .i64 mx, .int .i64 poll, .int .i64 cool, .int .i64 tol, .int .i64 back, .int .i64 after, .int .i64 shift, .int .i64 u0, .int .i64 u1, .int .i64 u2, .int .i64 u3, .int .i64 d0, .int .i64 d1, .int .i64 d2, .int .i64 d3, .slice At ts.length capt]) (by kernel_rfl) hS (fun hh => ?_)
 clear hh
 change wpAnyH _ _ _ _ _ 14 #[false, false, false, false, false, false, false, false, false, false, false, false, false, false] _ (World.drew _)
 refine tq 0 (.agg #[.string name, .int .i64 mn, .int .i64 mx, .int .i64 poll, .int .i64 cool, .int .i64 tol, .int .i64 back, .int .i64 after, .int .i64 shift, .int .i64 u0, .int .i64 u1, .int .i64 u2, .int .i64 u3, .int .i64 d0, .int .i64 d1, .int .i64 d2, .int .i64 d3, .slice At ts.length capt]) rfl (fun W hW => ?_) hS ?_
 ·exact exec_load_row rfl rfl hW Tryz.underlying101 rfl (by kernel_rfl)
 simp only [Act.put, tkS]
 refine tq 1 (.pointer (some ⟨w.heap.size, 9, none⟩)) rfl (fun W hW => ?_) hS ?_
 ·clear hW; go_simp
 simp only [Act.put, tkS]
 refine tq 2 (.agg #[.int .i64 u0, .int .i64 u1, .int .i64 u2, .int .i64 u3]) rfl (fun W hW => ?_) hS ?_
 ·have z9 : W.cell? ⟨w.heap.size, 9, none⟩ = some (.int .i64 u0) := hW.here rfl; have z10 : W.cell? ⟨w.heap.size, 10, none⟩ = some (.int .i64 u1) := hW.here rfl; have z11 : W.cell? ⟨w.heap.size, 11, none⟩ = some (.int .i64 u2) := hW.here rfl; have z12 : W.cell? ⟨w.heap.size, 12, none⟩ = some (.int .i64 u3) := hW.here rfl; clear hW; go_simp
 simp only [Act.put, tkS]
 refine tq 3 (.pointer (some ⟨w.heap.size, 13, none⟩)) rfl (fun W hW => ?_) hS ?_
 ·clear hW; go_simp
 simp only [Act.put, tkS]
 refine tq 4 (.agg #[.int .i64 d0, .int .i64 d1, .int .i64 d2, .int .i64 d3]) rfl (fun W hW => ?_) hS ?_
 ·have z13 : W.cell? ⟨w.heap.size, 13, none⟩ = some (.int .i64 d0) := hW.here rfl; have z14 : W.cell? ⟨w.heap.size, 14, none⟩ = some (.int .i64 d1) := hW.here rfl; have z15 : W.cell? ⟨w.heap.size, 15, none⟩ = some (.int .i64 d2) := hW.here rfl; have z16 : W.cell? ⟨w.heap.size, 16, none⟩ = some (.int .i64 d3) := hW.here rfl; clear hW; go_simp
 simp only [Act.put, tkS]
 refine tq 6 (.pointer (some ⟨w.heap.size, 17, none⟩)) rfl (fun W hW => ?_) hS ?_
 ·clear hW; go_simp
 simp only [Act.put, tkS]
 refine tq 7 (.slice At ts.length capt) rfl (fun W hW => ?_) hS ?_
 ·have z17 : W.cell? ⟨w.heap.size, 17, none⟩ = some (.slice At ts.length capt) := hW.here rfl; clear hW; go_simp
 simp only [Act.put, tkS]
 refine tq 8 (.int .i64 (ts.length : Int)) rfl (fun W hW => ?_) hS ?_
 ·clear hW; go_simp
 simp only [Act.put, tkS]
 refine wpAnyH_ready (rs := [5, 9]) (by kernel_rfl) (by simp) (AllReadyH.cons rfl (fun K hK => ?_) (AllReadyH.cons rfl (fun K hK => ?_) AllReadyH.nil))
 ·go_simp
  refine (stbNew ⟨u0, u1, u2, u3⟩ ⟨d0, d1, d2, d3⟩ _).mono ?_
  rintro e w6 ⟨gs, rfl, hs6, hb6⟩
  have HS6 := J hs6; have HB6 := J hb6
  have hS2 : G.At w6 w.heap.size 101 #[.string name, .int .i64 mn, .int .i64 mx, .int .i64 poll, .int .i64 cool, .int .i64 tol, .int .i64 back, .int .i64 after, .int .i64 shift, .int .i64 u0, .int .i64 u1, .int .i64 u2, .int .i64 u3, .int .i64 d0, .int .i64 d1, .int .i64 d2, .int .i64 d3, .slice At ts.length capt] := hS.below hb6 hS.inside
  clear hs6 hb6
  go_wp2_with fail
  refine hK.out _ _ hS2 (fun hh => ?_)
  clear hh hK K
  have hmk := HmkW.u
  refine wpAnyH_ready (rs := [9]) (by kernel_rfl) (by simp) (AllReadyH.cons rfl (fun K hK => ?_) AllReadyH.nil)
  go_simp
  have hS3 := hS2.alloc (.cells (Array.replicate ts.length (Value.int .i64 0)) 3)
  refine hK.out _ _ hS3 (fun hh => ?_)
  clear hh hK K hmk
  refine tq 10 (.agg #[.string name, .int .i64 mn, .int .i64 mx, .int .i64 poll, .int .i64 cool, .int .i64 tol, .int .i64 back, .int .i64 after, .int .i64 shift, .int .i64 u0, .int .i64 u1, .int .i64 u2, .int .i64 u3, .int .i64 d0, .int .i64 d1, .int .i64 d2, .int .i64 d3, .slice At ts.length capt, .pointer (some ⟨gs, 0, none⟩), .slice (some ⟨w6.heap.size, 0, none⟩) ts.length ts.length, .bool false, .int .i64 0, .int .i64 0, .int .i64 (-1)]) rfl (fun W hW => ?_) hS3 ?_
  ·exact exec_build rfl rfl (lop_built name mn mx poll cool tol back after shift u0 u1 u2 u3 d0 d1 d2 d3 At ts.length capt gs _)
  simp only [Act.put, tkS]
  refine wpAnyH_ready (rs := [11]) (by kernel_rfl) (by simp) (AllReadyH.cons rfl (fun K hK => ?_) AllReadyH.nil)
  go_simp
  have hS4 := hS3.alloc (.cells #[.string name, .int .i64 mn, .int .i64 mx, .int .i64 poll, .int .i64 cool, .int .i64 tol, .int .i64 back, .int .i64 after, .int .i64 shift, .int .i64 u0, .int .i64 u1, .int .i64 u2, .int .i64 u3, .int .i64 d0, .int .i64 d1, .int .i64 d2, .int .i64 d3, .slice At ts.length capt, .pointer (some ⟨gs, 0, none⟩), .slice (some ⟨w6.heap.size, 0, none⟩) ts.length ts.length, .bool false, .int .i64 0, .int .i64 0, .int .i64 (-1)] 219)
  refine hK.out _ _ hS4 (fun hh => ?_)
  clear hh hK K
  refine tq 12 (.pointer (some ⟨w6.heap.size + 1, 0, none⟩)) rfl (fun W hW => ?_) hS4 ?_
  ·clear hW; go_simp
  simp only [Act.put, tkS]
  refine tq 13 (.int .i64 0) rfl (fun W hW => ?_) hS4 ?_
  ·clear hW; go_simp
  simp only [Act.put, tkS]
  refine wpAnyH_done (by kernel_rfl) ?_ _
  clear hS hS2 hS3 hS4
  go_wp2_with fail
  go_ret2
  exact lop_endA (p := ⟨name, mn, mx, poll, cool, tol, back, after, shift, ⟨u0, u1, u2, u3⟩, ⟨d0, d1, d2, d3⟩, ts⟩) HFew.u HB2.u HT2.u HS6.u HB6.u
 have hmk := HmkW.u
 go_simp
 have hS2 := hS.alloc (.cells (Array.replicate ts.length (Value.int .i64 0)) 3)
 refine hK.out _ _ hS2 (fun hh => ?_)
 clear hh hK K hmk
 refine wpAnyH_ready (rs := [5]) (by kernel_rfl) (by simp) (AllReadyH.cons rfl (fun K hK => ?_) AllReadyH.nil)
 go_simp
 refine (stbNew ⟨u0, u1, u2, u3⟩ ⟨d0, d1, d2, d3⟩ _).mono ?_
 rintro e w6 ⟨gs, rfl, hs6, hb6⟩
 have HS6 := J hs6; have HB6 := J hb6
 have hS3 : G.At w6 w.heap.size 101 #[.string name, .int .i64 mn, .int .i64 mx, .int .i64 poll, .int .i64 cool, .int .i64 tol, .int .i64 back, .int .i64 after, .int .i64 shift, .int .i64 u0, .int .i64 u1, .int .i64 u2, .int .i64 u3, .int .i64 d0, .int .i64 d1, .int .i64 d2, .int .i64 d3, .slice At ts.length capt] := hS2.below hb6 hS2.inside
 clear hs6 hb6
 go_wp2_with fail
 refine hK.out _ _ hS3 (fun hh => ?_)
 clear hh hK K
 refine tq 10 (.agg #[.string name, .int .i64 mn, .int .i64 mx, .int .i64 poll, .int .i64 cool, .int .i64 tol, .int .i64 back, .int .i64 after, .int .i64 shift, .int .i64 u0, .int .i64 u1, .int .i64 u2, .int .i64 u3, .int .i64 d0, .int .i64 d1, .int .i64 d2, .int .i64 d3, .slice At ts.length capt, .pointer (some ⟨gs, 0, none⟩), .slice (some ⟨W5.heap.size, 0, none⟩) ts.length ts.length, .bool false, .int .i64 0, .int .i64 0, .int .i64 (-1)]) rfl (fun W hW => ?_) hS3 ?_
 ·exact exec_build rfl rfl (lop_built name mn mx poll cool tol back after shift u0 u1 u2 u3 d0 d1 d2 d3 At ts.length capt gs _)
 simp only [Act.put, tkS]
 refine wpAnyH_ready (rs := [11]) (by kernel_rfl) (by simp) (AllReadyH.cons rfl (fun K hK => ?_) AllReadyH.nil)
 go_simp
 have hS4 := hS3.alloc (.cells #[.string name, .int .i64 mn, .int .i64 mx, .int .i64 poll, .int .i64 cool, .int .i64 tol, .int .i64 back, .int .i64 after, .int .i64 shift, .int .i64 u0, .int .i64 u1, .int .i64 u2, .int .i64 u3, .int .i64 d0, .int .i64 d1, .int .i64 d2, .int .i64 d3, .slice At ts.length capt, .pointer (some ⟨gs, 0, none⟩), .slice (some ⟨W5.heap.size, 0, none⟩) ts.length ts.length, .bool false, .int .i64 0, .int .i64 0, .int .i64 (-1)] 219)
 refine hK.out _ _ hS4 (fun hh => ?_)
 clear hh hK K
 refine tq 12 (.pointer (some ⟨w6.heap.size, 0, none⟩)) rfl (fun W hW => ?_) hS4 ?_
 ·clear hW; go_simp
 simp only [Act.put, tkS]
 refine tq 13 (.int .i64 0) rfl (fun W hW => ?_) hS4 ?_
 ·clear hW; go_simp
 simp only [Act.put, tkS]
 refine wpAnyH_done (by kernel_rfl) ?_ _
 clear hS hS2 hS3 hS4
 go_wp2_with fail
 go_ret2
 exact lop_endB (p := ⟨name, mn, mx, poll, cool, tol, back, after, shift, ⟨u0, u1, u2, u3⟩, ⟨d0, d1, d2, d3⟩, ts⟩) HFew.u HB2.u HT2.u HS6.u HB6.u
end Go.Proofs.YtoidcbpcnikejaaGreatDoor
