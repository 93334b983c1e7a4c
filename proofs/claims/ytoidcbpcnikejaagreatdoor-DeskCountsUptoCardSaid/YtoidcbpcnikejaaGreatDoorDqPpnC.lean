/- The contract of plan.Print. -/
import Derived.Test.YtoidcbpcnikejaaGreatDoorDq23
import Derived.Test.YtoidcbpcnikejaaGreatDoorDqPlnE
import Derived.Test.YtoidcbpcnikejaaGreatDoorDq13
set_option linter.unusedVariables false
set_option linter.unusedSimpArgs false
set_option maxRecDepth 100000
set_option maxHeartbeats 12800000
namespace Go.Proofs.YtoidcbpcnikejaaGreatDoor
open Go.RowKit
def Pln.pcs (p : Pln) : Nat → ByteArray
 | 0 => p.row0 ++ p.row1
 | 1 => (p.row0 ++ p.row1) ++ p.row2
 | _ => p.top
theorem Pln.pcs_size {p : Pln} (h : p.fine) : (p.row0 ++ p.row1).size ≤ 220 ∧ ((p.row0 ++ p.row1) ++ p.row2).size ≤ 330 := by
 have := row0_size h; have := row1_size h; have := row2_size h
 simp only [ByteArray.size_append]
 omega
theorem pnKeep {w W : World} {g : Nat} {A : Option Addr} {cap : Nat} {ts : List Trg} {name : ByteArray} {mn mx poll cool tol back after shift u0 u1 u2 u3 d0 d1 d2 d3 : Int} (h : PnS w W g #[.string name, .int .i64 mn, .int .i64 mx, .int .i64 poll, .int .i64 cool, .int .i64 tol, .int .i64 back, .int .i64 after, .int .i64 shift, .int .i64 u0, .int .i64 u1, .int .i64 u2, .int .i64 u3, .int .i64 d0, .int .i64 d1, .int .i64 d2, .int .i64 d3, .slice A ts.length cap] A cap ts) : W.cell? ⟨g, 0, none⟩ = some (.string name) ∧ W.cell? ⟨g, 1, none⟩ = some (.int .i64 mn) ∧ W.cell? ⟨g, 2, none⟩ = some (.int .i64 mx) ∧ W.cell? ⟨g, 3, none⟩ = some (.int .i64 poll) ∧ W.cell? ⟨g, 4, none⟩ = some (.int .i64 cool) ∧ W.cell? ⟨g, 5, none⟩ = some (.int .i64 tol) ∧ W.cell? ⟨g, 6, none⟩ = some (.int .i64 back) ∧ W.cell? ⟨g, 7, none⟩ = some (.int .i64 after) ∧ W.cell? ⟨g, 8, none⟩ = some (.int .i64 shift) ∧ PnS w W g #[.string name, .int .i64 mn, .int .i64 mx, .int .i64 poll, .int .i64 cool, .int .i64 tol, .int .i64 back, .int .i64 after, .int .i64 shift, .int .i64 u0, .int .i64 u1, .int .i64 u2, .int .i64 u3, .int .i64 d0, .int .i64 d1, .int .i64 d2, .int .i64 d3, .slice A ts.length cap] A cap ts := ⟨h.at_.here rfl, h.at_.here rfl, h.at_.here rfl, h.at_.here rfl, h.at_.here rfl, h.at_.here rfl, h.at_.here rfl, h.at_.here rfl, h.at_.here rfl, h⟩
theorem row_info : (Tryz.prog.info? 166).map (fun i => (i.zero, i.size)) = some (some (.agg #[.string ⟨#[]⟩, .int .i64 0, .int .i64 0, .int .i64 0, .int .i64 0]), 5) := by kernel_rfl
theorem row_built (word : ByteArray) (a b c d : Int) : Tryz.prog.built 166 [(0, .string word), (1, .agg #[.int .i64 a, .int .i64 b, .int .i64 c, .int .i64 d])] = some #[.string word, .int .i64 a, .int .i64 b, .int .i64 c, .int .i64 d] := by kernel_rfl
theorem row_fill (u0 u1 u2 u3 d0 d1 d2 d3 : Int) : Instr.fill (fun i => some (i * 5, 5)) ((Array.range (2 * 5)).map ((Value.agg #[.string ⟨#[]⟩, .int .i64 0, .int .i64 0, .int .i64 0, .int .i64 0]).cells[· % (Value.agg #[.string ⟨#[]⟩, .int .i64 0, .int .i64 0, .int .i64 0, .int .i64 0]).cells.size]!)) [(0, .agg #[.string ⟨#[117, 112]⟩, .int .i64 u0, .int .i64 u1, .int .i64 u2, .int .i64 u3]), (1, .agg #[.string ⟨#[100, 111, 119, 110]⟩, .int .i64 d0, .int .i64 d1, .int .i64 d2, .int .i64 d3])] = some #[.string ⟨#[117, 112]⟩, .int .i64 u0, .int .i64 u1, .int .i64 u2, .int .i64 u3, .string ⟨#[100, 111, 119, 110]⟩, .int .i64 d0, .int .i64 d1, .int .i64 d2, .int .i64 d3] := by kernel_rfl
theorem sayPrint (c : Cr) (hf : c.fits) (t : ByteArray) (he : c.err = 0) (ht : c.text = t) (w : World) : Calls Tryz.prog 84 #[.agg c.cells] w fun e w' => e = .returned (.tuple #[.string t, .int .i64 0]) ∧ Below w.heap.size w w' :=
 (cronPrint c hf w).mono fun _ _ ⟨h, hb⟩ => ⟨by rw [h, if_pos he, he, ht], hb⟩
theorem planPrint (name : ByteArray) (mn mx poll cool tol back after shift u0 u1 u2 u3 d0 d1 d2 d3 : Int) (A : Option Addr) (cap : Nat) (ts : List Trg) (w : World) (ht : G.ListIn w 17 Trg.enc (.slice A ts.length cap) ts) (hf : ∀ t ∈ ts, t.fits) (hn : name.size ≤ 9223372036854775807) (hl : ts.length ≤ 9223372036854775807) (hT : PowTab w) :
  Calls Tryz.prog 57 #[.agg #[.string name, .int .i64 mn, .int .i64 mx, .int .i64 poll, .int .i64 cool, .int .i64 tol, .int .i64 back, .int .i64 after, .int .i64 shift, .int .i64 u0, .int .i64 u1, .int .i64 u2, .int .i64 u3, .int .i64 d0, .int .i64 d1, .int .i64 d2, .int .i64 d3, .slice A ts.length cap]] w (PrnPost (⟨name, mn, mx, poll, cool, tol, back, after, shift, ⟨u0, u1, u2, u3⟩, ⟨d0, d1, d2, d3⟩, ts⟩ : Pln) w) := by
 have HS := J (show PnS w (w.alloc (.cells #[.string name, .int .i64 mn, .int .i64 mx, .int .i64 poll, .int .i64 cool, .int .i64 tol, .int .i64 back, .int .i64 after, .int .i64 shift, .int .i64 u0, .int .i64 u1, .int .i64 u2, .int .i64 u3, .int .i64 d0, .int .i64 d1, .int .i64 d2, .int .i64 d3, .slice A ts.length cap] 101)) w.heap.size #[.string name, .int .i64 mn, .int .i64 mx, .int .i64 poll, .int .i64 cool, .int .i64 tol, .int .i64 back, .int .i64 after, .int .i64 shift, .int .i64 u0, .int .i64 u1, .int .i64 u2, .int .i64 u3, .int .i64 d0, .int .i64 d1, .int .i64 d2, .int .i64 d3, .slice A ts.length cap] A cap ts from
  have hb := (Below.refl w.heap.size w).alloc (Nat.le_refl _) (.cells #[.string name, .int .i64 mn, .int .i64 mx, .int .i64 poll, .int .i64 cool, .int .i64 tol, .int .i64 back, .int .i64 after, .int .i64 shift, .int .i64 u0, .int .i64 u1, .int .i64 u2, .int .i64 u3, .int .i64 d0, .int .i64 d1, .int .i64 d2, .int .i64 d3, .slice A ts.length cap] 101)
  ⟨G.At.made w 101 #[.string name, .int .i64 mn, .int .i64 mx, .int .i64 poll, .int .i64 cool, .int .i64 tol, .int .i64 back, .int .i64 after, .int .i64 shift, .int .i64 u0, .int .i64 u1, .int .i64 u2, .int .i64 u3, .int .i64 d0, .int .i64 d1, .int .i64 d2, .int .i64 d3, .slice A ts.length cap], hT.below hb, ht.below hb (Nat.le_refl _), hb⟩)
 have HF := J hf; have HN := J hn; have HL := J hl
 clear ht hT hf hn hl
 go_enter Tryz.func57, Tryz.ntmps57
 go_upto_region 1 with fail
 generalize w.alloc (.cells #[.string name, .int .i64 mn, .int .i64 mx, .int .i64 poll, .int .i64 cool, .int .i64 tol, .int .i64 back, .int .i64 after, .int .i64 shift, .int .i64 u0, .int .i64 u1, .int .i64 u2, .int .i64 u3, .int .i64 d0, .int .i64 d1, .int .i64 d2, .int .i64 d3, .slice A ts.length cap] 101) = W at HS ⊢
 go_wp2_with (refine wpList_load_row rfl 101 (.tmp 1) rfl w.heap.size rfl 101 _ (0, 0) _ HS.u.at_ Tryz.underlying101 rfl (by kernel_rfl) ?_)
 refine (planCheck name mn mx poll cool tol back after shift u0 u1 u2 u3 d0 d1 d2 d3 A cap ts _ HS.u.row HF.u HN.u HL.u).mono ?_
 rintro e w1 ⟨rfl, hb1⟩
 have HS1 := J (HS.u.next hb1)
 clear hb1 HS
 generalize w.heap.size = g at HS1 ⊢
 obtain ⟨p, hp⟩ : ∃ p : Pln, Hid ((⟨name, mn, mx, poll, cool, tol, back, after, shift, ⟨u0, u1, u2, u3⟩, ⟨d0, d1, d2, d3⟩, ts⟩ : Pln) = p) := ⟨_, J rfl⟩
 rw [hp.u]
 obtain ⟨R, HR⟩ : ∃ R, Hid (planE p = R) := ⟨_, J rfl⟩
 by_cases he : R = 0
 ·as_aux_lemma =>
  subst he
  rw [HR.u]
  have HFi := J (planE_fine HR.u)
  have HQ := J (fun w' (hb : Below w.heap.size w w') => (show PrnPost p w (.returned (.tuple #[.string p.text, .int .i64 0])) w' from ⟨by rw [if_pos HR.u, HR.u], hb⟩))
  have HI0 := J (show ∀ x ∈ [mn, mx, poll, cool], IntW x by have := HFi.u.i0; rw [← hp.u] at this; exact this)
  have HI1 := J (show ∀ x ∈ [tol, back, after, shift], IntW x by have := HFi.u.i1; rw [← hp.u] at this; exact this)
  have HI2 := J (show ∀ x ∈ [u0, u1, u2, u3], IntW x by have := HFi.u.i2; rw [← hp.u] at this; exact this)
  have HI3 := J (show ∀ x ∈ [d0, d1, d2, d3], IntW x by have := HFi.u.i3; rw [← hp.u] at this; exact this)
  have HR0 := J (show RowF p.row0 ((⟨#[112, 108, 97, 110, 32]⟩ : ByteArray) ++ name) mn mx poll cool from ⟨HI0.u, by have := Pln.word_size HFi.u; rw [← hp.u] at this; exact Nat.le_trans this (by decide), by rw [← hp.u]; rfl⟩)
  have HR1 := J (show RowF p.row1 ⟨#[114, 101, 115, 116]⟩ tol back after shift from ⟨HI1.u, by decide, by rw [← hp.u]; rfl⟩)
  have HR2 := J (show RowF p.row2 ⟨#[117, 112]⟩ u0 u1 u2 u3 from ⟨HI2.u, by decide, by rw [← hp.u]; rfl⟩)
  have HR3 := J (show RowF p.row3 ⟨#[100, 111, 119, 110]⟩ d0 d1 d2 d3 from ⟨HI3.u, by decide, by rw [← hp.u]; rfl⟩)
  have HNm := J (show p.name.size ≤ 16 from HFi.u.name)
  have HNe := J (show p.name = name by rw [← hp.u])
  have HTs := J (show p.trigs = ts by rw [← hp.u])
  have hfew : (ts.length : Int) ≤ 5 := by have := HFi.u.few; rw [HTs.u] at this; omega
  clear HI0 HI1 HI2 HI3
  go_upto_region 4 with fail
  go_cut [5] (fun x wy => x = .string (p.row0 ++ p.row1) ∧ Hid (PnS w wy g #[.string name, .int .i64 mn, .int .i64 mx, .int .i64 poll, .int .i64 cool, .int .i64 tol, .int .i64 back, .int .i64 after, .int .i64 shift, .int .i64 u0, .int .i64 u1, .int .i64 u2, .int .i64 u3, .int .i64 d0, .int .i64 d1, .int .i64 d2, .int .i64 d3, .slice A ts.length cap] A cap ts))
  case first =>
   have hz0b : (5 : Int) + (name.size : Int) ≤ 9223372036854775807 := by have := HNm.u; rw [HNe.u] at this; omega
   have hz0c : 5 + name.size ≤ 9223372036854775807 := by omega
   have hz1 : (p.row0.size : Int) + (p.row1.size : Int) ≤ 9223372036854775807 := by have := Pln.row0_size HFi.u; have := Pln.row1_size HFi.u; omega
   have hz1c : p.row0.size + p.row1.size ≤ 9223372036854775807 := by omega
   have hS0 := HS1.u
   have hS := HS1.u.drew
   refine wp_region_held_drew (S := (fun w' => w'.cell? ⟨g, 0, none⟩ = some (.string name) ∧ w'.cell? ⟨g, 1, none⟩ = some (.int .i64 mn) ∧ w'.cell? ⟨g, 2, none⟩ = some (.int .i64 mx) ∧ w'.cell? ⟨g, 3, none⟩ = some (.int .i64 poll) ∧ w'.cell? ⟨g, 4, none⟩ = some (.int .i64 cool) ∧ w'.cell? ⟨g, 5, none⟩ = some (.int .i64 tol) ∧ w'.cell? ⟨g, 6, none⟩ = some (.int .i64 back) ∧ w'.cell? ⟨g, 7, none⟩ = some (.int .i64 after) ∧ w'.cell? ⟨g, 8, none⟩ = some (.int .i64 shift) ∧ PnS w w' g #[.string name, .int .i64 mn, .int .i64 mx, .int .i64 poll, .int .i64 cool, .int .i64 tol, .int .i64 back, .int .i64 after, .int .i64 shift, .int .i64 u0, .int .i64 u1, .int .i64 u2, .int .i64 u3, .int .i64 d0, .int .i64 d1, .int .i64 d2, .int .i64 d3, .slice A ts.length cap] A cap ts)) (by kernel_rfl) (pnKeep hS) (fun hS9 => ?_)
   change wpAnyH _ _ _ _ _ 25 #[false, false, false, false, false, false, false, false, false, false, false, false, false, false, false, false, false, false, false, false, false, false, false, false, false] _ (World.drew _)
   have P0 := hS
   clear hS hS0
   generalize w1.drew = W0 at P0 hS9 ⊢
   refine tq 0 (.pointer (some ⟨g, 0, none⟩)) rfl (fun W hW => ?_) hS9 ?_
   ·obtain ⟨z0, z1, z2, z3, z4, z5, z6, z7, z8, z9⟩ := hW; go_simp
   simp only [Act.put, tkS]
   refine tq 1 (.string name) rfl (fun W hW => ?_) hS9 ?_
   ·obtain ⟨z0, z1, z2, z3, z4, z5, z6, z7, z8, z9⟩ := hW; go_simp
   simp only [Act.put, tkS]
   refine tq 2 (.string ((⟨#[112, 108, 97, 110, 32]⟩ : ByteArray) ++ name)) rfl (fun W hW => ?_) hS9 ?_
   ·obtain ⟨z0, z1, z2, z3, z4, z5, z6, z7, z8, z9⟩ := hW; go_simp
   simp only [Act.put, tkS]
   refine tq 3 (.pointer (some ⟨g, 1, none⟩)) rfl (fun W hW => ?_) hS9 ?_
   ·obtain ⟨z0, z1, z2, z3, z4, z5, z6, z7, z8, z9⟩ := hW; go_simp
   simp only [Act.put, tkS]
   refine tq 4 (.int .i64 mn) rfl (fun W hW => ?_) hS9 ?_
   ·obtain ⟨z0, z1, z2, z3, z4, z5, z6, z7, z8, z9⟩ := hW; go_simp
   simp only [Act.put, tkS]
   refine tq 5 (.pointer (some ⟨g, 2, none⟩)) rfl (fun W hW => ?_) hS9 ?_
   ·obtain ⟨z0, z1, z2, z3, z4, z5, z6, z7, z8, z9⟩ := hW; go_simp
   simp only [Act.put, tkS]
   refine tq 6 (.int .i64 mx) rfl (fun W hW => ?_) hS9 ?_
   ·obtain ⟨z0, z1, z2, z3, z4, z5, z6, z7, z8, z9⟩ := hW; go_simp
   simp only [Act.put, tkS]
   refine tq 7 (.pointer (some ⟨g, 3, none⟩)) rfl (fun W hW => ?_) hS9 ?_
   ·obtain ⟨z0, z1, z2, z3, z4, z5, z6, z7, z8, z9⟩ := hW; go_simp
   simp only [Act.put, tkS]
   refine tq 8 (.int .i64 poll) rfl (fun W hW => ?_) hS9 ?_
   ·obtain ⟨z0, z1, z2, z3, z4, z5, z6, z7, z8, z9⟩ := hW; go_simp
   simp only [Act.put, tkS]
   refine tq 9 (.pointer (some ⟨g, 4, none⟩)) rfl (fun W hW => ?_) hS9 ?_
   ·obtain ⟨z0, z1, z2, z3, z4, z5, z6, z7, z8, z9⟩ := hW; go_simp
   simp only [Act.put, tkS]
   refine tq 10 (.int .i64 cool) rfl (fun W hW => ?_) hS9 ?_
   ·obtain ⟨z0, z1, z2, z3, z4, z5, z6, z7, z8, z9⟩ := hW; go_simp
   simp only [Act.put, tkS]
   refine tq 13 (.pointer (some ⟨g, 5, none⟩)) rfl (fun W hW => ?_) hS9 ?_
   ·obtain ⟨z0, z1, z2, z3, z4, z5, z6, z7, z8, z9⟩ := hW; go_simp
   simp only [Act.put, tkS]
   refine tq 14 (.int .i64 tol) rfl (fun W hW => ?_) hS9 ?_
   ·obtain ⟨z0, z1, z2, z3, z4, z5, z6, z7, z8, z9⟩ := hW; go_simp
   simp only [Act.put, tkS]
   refine tq 15 (.pointer (some ⟨g, 6, none⟩)) rfl (fun W hW => ?_) hS9 ?_
   ·obtain ⟨z0, z1, z2, z3, z4, z5, z6, z7, z8, z9⟩ := hW; go_simp
   simp only [Act.put, tkS]
   refine tq 16 (.int .i64 back) rfl (fun W hW => ?_) hS9 ?_
   ·obtain ⟨z0, z1, z2, z3, z4, z5, z6, z7, z8, z9⟩ := hW; go_simp
   simp only [Act.put, tkS]
   refine tq 17 (.pointer (some ⟨g, 7, none⟩)) rfl (fun W hW => ?_) hS9 ?_
   ·obtain ⟨z0, z1, z2, z3, z4, z5, z6, z7, z8, z9⟩ := hW; go_simp
   simp only [Act.put, tkS]
   refine tq 18 (.int .i64 after) rfl (fun W hW => ?_) hS9 ?_
   ·obtain ⟨z0, z1, z2, z3, z4, z5, z6, z7, z8, z9⟩ := hW; go_simp
   simp only [Act.put, tkS]
   refine tq 19 (.pointer (some ⟨g, 8, none⟩)) rfl (fun W hW => ?_) hS9 ?_
   ·obtain ⟨z0, z1, z2, z3, z4, z5, z6, z7, z8, z9⟩ := hW; go_simp
   simp only [Act.put, tkS]
   refine tq 20 (.int .i64 shift) rfl (fun W hW => ?_) hS9 ?_
   ·obtain ⟨z0, z1, z2, z3, z4, z5, z6, z7, z8, z9⟩ := hW; go_simp
   simp only [Act.put, tkS]
   refine wpAnyH_ready (rs := [11, 21]) (by kernel_rfl) (by simp) (AllReadyH.cons rfl (fun K hK => ?_) (AllReadyH.cons rfl (fun K hK => ?_) AllReadyH.nil))
   ·go_simp
    have P1 := P0.alloc (.cells #[.int .i64 mn, .int .i64 mx, .int .i64 poll, .int .i64 cool] 3)
    have Q11 := G.At.made W0 3 #[.int .i64 mn, .int .i64 mx, .int .i64 poll, .int .i64 cool]
    refine hK.out _ _ (pnKeep P1) (fun hT1 => ?_)
    clear hK K P0
    generalize W0.alloc (.cells #[.int .i64 mn, .int .i64 mx, .int .i64 poll, .int .i64 cool] 3) = W1 at P1 hT1 Q11 ⊢
    generalize W0.heap.size = b11 at Q11 ⊢
    refine wpAnyH_ready (rs := [12, 21]) (by kernel_rfl) (by simp) (AllReadyH.cons rfl (fun K hK => ?_) (AllReadyH.cons rfl (fun K hK => ?_) AllReadyH.nil))
    ·go_simp
     refine (line4 (w0 := w) (g := g) (cs := #[.string name, .int .i64 mn, .int .i64 mx, .int .i64 poll, .int .i64 cool, .int .i64 tol, .int .i64 back, .int .i64 after, .int .i64 shift, .int .i64 u0, .int .i64 u1, .int .i64 u2, .int .i64 u3, .int .i64 d0, .int .i64 d1, .int .i64 d2, .int .i64 d3, .slice A ts.length cap]) (A := A) (cap := cap) (ts := ts) p.row0 _ mn mx poll cool Q11 P1 HR0.u).mono ?_
     rintro e W2 ⟨rfl, hb, P2⟩
     go_wp2_with fail
     refine hK.out _ _ (pnKeep P2) (fun hT2 => ?_)
     clear hK K P1
     refine wpAnyH_ready (rs := [21]) (by kernel_rfl) (by simp) (AllReadyH.cons rfl (fun K hK => ?_) AllReadyH.nil)
     go_simp
     have P3 := P2.alloc (.cells #[.int .i64 tol, .int .i64 back, .int .i64 after, .int .i64 shift] 3)
     have Q21 := G.At.made W2 3 #[.int .i64 tol, .int .i64 back, .int .i64 after, .int .i64 shift]
     refine hK.out _ _ (pnKeep P3) (fun hT3 => ?_)
     clear hK K P2
     generalize W2.alloc (.cells #[.int .i64 tol, .int .i64 back, .int .i64 after, .int .i64 shift] 3) = W3 at P3 hT3 Q21 ⊢
     generalize W2.heap.size = b21 at Q21 ⊢
     refine wpAnyH_ready (rs := [22]) (by kernel_rfl) (by simp) (AllReadyH.cons rfl (fun K hK => ?_) AllReadyH.nil)
     go_simp
     refine (line4 (w0 := w) (g := g) (cs := #[.string name, .int .i64 mn, .int .i64 mx, .int .i64 poll, .int .i64 cool, .int .i64 tol, .int .i64 back, .int .i64 after, .int .i64 shift, .int .i64 u0, .int .i64 u1, .int .i64 u2, .int .i64 u3, .int .i64 d0, .int .i64 d1, .int .i64 d2, .int .i64 d3, .slice A ts.length cap]) (A := A) (cap := cap) (ts := ts) p.row1 _ tol back after shift Q21 P3 HR1.u).mono ?_
     rintro e W4 ⟨rfl, hb, P4⟩
     go_wp2_with fail
     refine hK.out _ _ (pnKeep P4) (fun hT4 => ?_)
     clear hK K P3
     refine tq 23 (.string (p.row0 ++ p.row1)) rfl (fun W hW => ?_) hT4 ?_
     ·obtain ⟨z0, z1, z2, z3, z4, z5, z6, z7, z8, z9⟩ := hW; go_simp
     simp only [Act.put, tkS]
     refine tq 24 (.string (p.row0 ++ p.row1)) rfl (fun W hW => ?_) hT4 ?_
     ·obtain ⟨z0, z1, z2, z3, z4, z5, z6, z7, z8, z9⟩ := hW; go_simp
     simp only [Act.put, tkS]
     refine wpAnyH_done (by kernel_rfl) ?_ _
     go_wp2_with fail
     go_meet
     exact ⟨rfl, J P4⟩
    go_simp
    have P2 := P1.alloc (.cells #[.int .i64 tol, .int .i64 back, .int .i64 after, .int .i64 shift] 3)
    have Q21 := G.At.made W1 3 #[.int .i64 tol, .int .i64 back, .int .i64 after, .int .i64 shift]
    have Q11 := G.At.alloc Q11 (.cells #[.int .i64 tol, .int .i64 back, .int .i64 after, .int .i64 shift] 3)
    refine hK.out _ _ (pnKeep P2) (fun hT2 => ?_)
    clear hK K P1
    generalize W1.alloc (.cells #[.int .i64 tol, .int .i64 back, .int .i64 after, .int .i64 shift] 3) = W2 at P2 hT2 Q21 Q11 ⊢
    generalize W1.heap.size = b21 at Q21 ⊢
    refine wpAnyH_ready (rs := [12]) (by kernel_rfl) (by simp) (AllReadyH.cons rfl (fun K hK => ?_) AllReadyH.nil)
    go_simp
    refine (line4 (w0 := w) (g := g) (cs := #[.string name, .int .i64 mn, .int .i64 mx, .int .i64 poll, .int .i64 cool, .int .i64 tol, .int .i64 back, .int .i64 after, .int .i64 shift, .int .i64 u0, .int .i64 u1, .int .i64 u2, .int .i64 u3, .int .i64 d0, .int .i64 d1, .int .i64 d2, .int .i64 d3, .slice A ts.length cap]) (A := A) (cap := cap) (ts := ts) p.row0 _ mn mx poll cool Q11 P2 HR0.u).mono ?_
    rintro e W3 ⟨rfl, hb, P3⟩
    have Q21 := G.At.below Q21 hb Q21.inside
    go_wp2_with fail
    refine hK.out _ _ (pnKeep P3) (fun hT3 => ?_)
    clear hK K P2
    refine wpAnyH_ready (rs := [22]) (by kernel_rfl) (by simp) (AllReadyH.cons rfl (fun K hK => ?_) AllReadyH.nil)
    go_simp
    refine (line4 (w0 := w) (g := g) (cs := #[.string name, .int .i64 mn, .int .i64 mx, .int .i64 poll, .int .i64 cool, .int .i64 tol, .int .i64 back, .int .i64 after, .int .i64 shift, .int .i64 u0, .int .i64 u1, .int .i64 u2, .int .i64 u3, .int .i64 d0, .int .i64 d1, .int .i64 d2, .int .i64 d3, .slice A ts.length cap]) (A := A) (cap := cap) (ts := ts) p.row1 _ tol back after shift Q21 P3 HR1.u).mono ?_
    rintro e W4 ⟨rfl, hb, P4⟩
    go_wp2_with fail
    refine hK.out _ _ (pnKeep P4) (fun hT4 => ?_)
    clear hK K P3
    refine tq 23 (.string (p.row0 ++ p.row1)) rfl (fun W hW => ?_) hT4 ?_
    ·obtain ⟨z0, z1, z2, z3, z4, z5, z6, z7, z8, z9⟩ := hW; go_simp
    simp only [Act.put, tkS]
    refine tq 24 (.string (p.row0 ++ p.row1)) rfl (fun W hW => ?_) hT4 ?_
    ·obtain ⟨z0, z1, z2, z3, z4, z5, z6, z7, z8, z9⟩ := hW; go_simp
    simp only [Act.put, tkS]
    refine wpAnyH_done (by kernel_rfl) ?_ _
    go_wp2_with fail
    go_meet
    exact ⟨rfl, J P4⟩
   go_simp
   have P1 := P0.alloc (.cells #[.int .i64 tol, .int .i64 back, .int .i64 after, .int .i64 shift] 3)
   have Q21 := G.At.made W0 3 #[.int .i64 tol, .int .i64 back, .int .i64 after, .int .i64 shift]
   refine hK.out _ _ (pnKeep P1) (fun hT1 => ?_)
   clear hK K P0
   generalize W0.alloc (.cells #[.int .i64 tol, .int .i64 back, .int .i64 after, .int .i64 shift] 3) = W1 at P1 hT1 Q21 ⊢
   generalize W0.heap.size = b21 at Q21 ⊢
   refine wpAnyH_ready (rs := [11]) (by kernel_rfl) (by simp) (AllReadyH.cons rfl (fun K hK => ?_) AllReadyH.nil)
   go_simp
   have P2 := P1.alloc (.cells #[.int .i64 mn, .int .i64 mx, .int .i64 poll, .int .i64 cool] 3)
   have Q11 := G.At.made W1 3 #[.int .i64 mn, .int .i64 mx, .int .i64 poll, .int .i64 cool]
   have Q21 := G.At.alloc Q21 (.cells #[.int .i64 mn, .int .i64 mx, .int .i64 poll, .int .i64 cool] 3)
   refine hK.out _ _ (pnKeep P2) (fun hT2 => ?_)
   clear hK K P1
   generalize W1.alloc (.cells #[.int .i64 mn, .int .i64 mx, .int .i64 poll, .int .i64 cool] 3) = W2 at P2 hT2 Q11 Q21 ⊢
   generalize W1.heap.size = b11 at Q11 ⊢
   refine wpAnyH_ready (rs := [12]) (by kernel_rfl) (by simp) (AllReadyH.cons rfl (fun K hK => ?_) AllReadyH.nil)
   go_simp
   refine (line4 (w0 := w) (g := g) (cs := #[.string name, .int .i64 mn, .int .i64 mx, .int .i64 poll, .int .i64 cool, .int .i64 tol, .int .i64 back, .int .i64 after, .int .i64 shift, .int .i64 u0, .int .i64 u1, .int .i64 u2, .int .i64 u3, .int .i64 d0, .int .i64 d1, .int .i64 d2, .int .i64 d3, .slice A ts.length cap]) (A := A) (cap := cap) (ts := ts) p.row0 _ mn mx poll cool Q11 P2 HR0.u).mono ?_
   rintro e W3 ⟨rfl, hb, P3⟩
   have Q21 := G.At.below Q21 hb Q21.inside
   go_wp2_with fail
   refine hK.out _ _ (pnKeep P3) (fun hT3 => ?_)
   clear hK K P2
   refine wpAnyH_ready (rs := [22]) (by kernel_rfl) (by simp) (AllReadyH.cons rfl (fun K hK => ?_) AllReadyH.nil)
   go_simp
   refine (line4 (w0 := w) (g := g) (cs := #[.string name, .int .i64 mn, .int .i64 mx, .int .i64 poll, .int .i64 cool, .int .i64 tol, .int .i64 back, .int .i64 after, .int .i64 shift, .int .i64 u0, .int .i64 u1, .int .i64 u2, .int .i64 u3, .int .i64 d0, .int .i64 d1, .int .i64 d2, .int .i64 d3, .slice A ts.length cap]) (A := A) (cap := cap) (ts := ts) p.row1 _ tol back after shift Q21 P3 HR1.u).mono ?_
   rintro e W4 ⟨rfl, hb, P4⟩
   go_wp2_with fail
   refine hK.out _ _ (pnKeep P4) (fun hT4 => ?_)
   clear hK K P3
   refine tq 23 (.string (p.row0 ++ p.row1)) rfl (fun W hW => ?_) hT4 ?_
   ·obtain ⟨z0, z1, z2, z3, z4, z5, z6, z7, z8, z9⟩ := hW; go_simp
   simp only [Act.put, tkS]
   refine tq 24 (.string (p.row0 ++ p.row1)) rfl (fun W hW => ?_) hT4 ?_
   ·obtain ⟨z0, z1, z2, z3, z4, z5, z6, z7, z8, z9⟩ := hW; go_simp
   simp only [Act.put, tkS]
   refine wpAnyH_done (by kernel_rfl) ?_ _
   go_wp2_with fail
   go_meet
   exact ⟨rfl, J P4⟩
  as_aux_lemma =>
  obtain ⟨rfl, HSa⟩ := hcut
  clear HS1 HR0 HR1
  have x9 := HSa.u.at_.here (i := 9) rfl
  have x10 := HSa.u.at_.here (i := 10) rfl
  have x11 := HSa.u.at_.here (i := 11) rfl
  have x12 := HSa.u.at_.here (i := 12) rfl
  have x13 := HSa.u.at_.here (i := 13) rfl
  have x14 := HSa.u.at_.here (i := 14) rfl
  have x15 := HSa.u.at_.here (i := 15) rfl
  have x16 := HSa.u.at_.here (i := 16) rfl
  obtain ⟨j0, hj0, hz0, hz1⟩ := info_two row_info
  have hz2 : ¬ 2 * j0.size > 2 ^ 24 := by rw [hz1]; decide
  have hz3 : ¬ 2 * j0.size = 0 := by rw [hz1]; decide
  have hz4 : Instr.fill (fun i => some (i * j0.size, j0.size)) ((Array.range (2 * j0.size)).map ((Value.agg #[.string ⟨#[]⟩, .int .i64 0, .int .i64 0, .int .i64 0, .int .i64 0]).cells[· % (Value.agg #[.string ⟨#[]⟩, .int .i64 0, .int .i64 0, .int .i64 0, .int .i64 0]).cells.size]!)) [(0, .agg #[.string ⟨#[117, 112]⟩, .int .i64 u0, .int .i64 u1, .int .i64 u2, .int .i64 u3]), (1, .agg #[.string ⟨#[100, 111, 119, 110]⟩, .int .i64 d0, .int .i64 d1, .int .i64 d2, .int .i64 d3])] = some #[.string ⟨#[117, 112]⟩, .int .i64 u0, .int .i64 u1, .int .i64 u2, .int .i64 u3, .string ⟨#[100, 111, 119, 110]⟩, .int .i64 d0, .int .i64 d1, .int .i64 d2, .int .i64 d3] := by rw [hz1]; exact row_fill u0 u1 u2 u3 d0 d1 d2 d3
  have H0 := J hj0; have H1 := J hz0; have H2 := J hz2; have H3 := J hz3; have H4 := J hz4
  clear hj0 hz0 hz1 hz2 hz3 hz4
  go_wp2_with (first | refine build_law rfl 166 _ rfl [(0, .string ⟨#[117, 112]⟩), (1, .agg #[.int .i64 u0, .int .i64 u1, .int .i64 u2, .int .i64 u3])] rfl _ (row_built _ _ _ _ _) ?_ | refine build_law rfl 166 _ rfl [(0, .string ⟨#[100, 111, 119, 110]⟩), (1, .agg #[.int .i64 d0, .int .i64 d1, .int .i64 d2, .int .i64 d3])] rfl _ (row_built _ _ _ _ _) ?_ | refine bslice_law rfl 167 166 2 _ rfl [(0, .agg #[.string ⟨#[117, 112]⟩, .int .i64 u0, .int .i64 u1, .int .i64 u2, .int .i64 u3]), (1, .agg #[.string ⟨#[100, 111, 119, 110]⟩, .int .i64 d0, .int .i64 d1, .int .i64 d2, .int .i64 d3])] rfl #[.string ⟨#[117, 112]⟩, .int .i64 u0, .int .i64 u1, .int .i64 u2, .int .i64 u3, .string ⟨#[100, 111, 119, 110]⟩, .int .i64 d0, .int .i64 d1, .int .i64 d2, .int .i64 d3] j0 _ Tryz.underlying167 H0.u H1.u H2.u H3.u H4.u ?_)
  have HA := J (G.At.made wc 166 #[.string ⟨#[117, 112]⟩, .int .i64 u0, .int .i64 u1, .int .i64 u2, .int .i64 u3, .string ⟨#[100, 111, 119, 110]⟩, .int .i64 d0, .int .i64 d1, .int .i64 d2, .int .i64 d3])
  have HSb := J (HSa.u.alloc (.cells #[.string ⟨#[117, 112]⟩, .int .i64 u0, .int .i64 u1, .int .i64 u2, .int .i64 u3, .string ⟨#[100, 111, 119, 110]⟩, .int .i64 d0, .int .i64 d1, .int .i64 d2, .int .i64 d3] 166))
  generalize wc.alloc (.cells #[.string ⟨#[117, 112]⟩, .int .i64 u0, .int .i64 u1, .int .i64 u2, .int .i64 u3, .string ⟨#[100, 111, 119, 110]⟩, .int .i64 d0, .int .i64 d1, .int .i64 d2, .int .i64 d3] 166) = W5 at HA HSb ⊢
  generalize wc.heap.size = b5 at HA ⊢
  clear HSa x9 x10 x11 x12 x13 x14 x15 x16
  have HPs := J (Pln.pcs_size HFi.u)
  have hp0 : p.row0 ++ p.row1 = p.pcs 0 := rfl
  rw [hp0]
  clear hp0
  go_loopw [5, 51] (fun x y wr => ∃ k : Nat, k ≤ 2 ∧ x = .string (p.pcs k) ∧ y = .int .i64 k ∧ Hid (PnS w wr g #[.string name, .int .i64 mn, .int .i64 mx, .int .i64 poll, .int .i64 cool, .int .i64 tol, .int .i64 back, .int .i64 after, .int .i64 shift, .int .i64 u0, .int .i64 u1, .int .i64 u2, .int .i64 u3, .int .i64 d0, .int .i64 d1, .int .i64 d2, .int .i64 d3, .slice A ts.length cap] A cap ts) ∧ Hid (G.At wr b5 166 #[.string ⟨#[117, 112]⟩, .int .i64 u0, .int .i64 u1, .int .i64 u2, .int .i64 u3, .string ⟨#[100, 111, 119, 110]⟩, .int .i64 d0, .int .i64 d1, .int .i64 d2, .int .i64 d3])) (fun _ y _ => 2 - (intOf y).toNat)
  case atStart => exact ⟨0, by omega, rfl, rfl, HSb, HA⟩
  clear HSb HA
  obtain ⟨k, hk, rfl, rfl, HS, HA⟩ := hrel
  by_cases k0 : k = 0
  ·as_aux_lemma =>
   subst k0
   have a0 := HA.u.here (i := 0) rfl
   have a1 := HA.u.here (i := 1) rfl
   have a2 := HA.u.here (i := 2) rfl
   have a3 := HA.u.here (i := 3) rfl
   have a4 := HA.u.here (i := 4) rfl
   go_upto_region 8 with fail
   have HS6 := J (HS.u.alloc (.cells #[.string ⟨#[117, 112]⟩, .int .i64 u0, .int .i64 u1, .int .i64 u2, .int .i64 u3] 166))
   have HA6 := J (HA.u.alloc (.cells #[.string ⟨#[117, 112]⟩, .int .i64 u0, .int .i64 u1, .int .i64 u2, .int .i64 u3] 166))
   have HX6 := J (G.At.made wr 166 #[.string ⟨#[117, 112]⟩, .int .i64 u0, .int .i64 u1, .int .i64 u2, .int .i64 u3])
   generalize wr.alloc (.cells #[.string ⟨#[117, 112]⟩, .int .i64 u0, .int .i64 u1, .int .i64 u2, .int .i64 u3] 166) = W6 at HS6 HA6 HX6 ⊢
   generalize wr.heap.size = b6 at HX6 ⊢
   clear a0 a1 a2 a3 a4 HS HA
   have a0 := HX6.u.here (i := 0) rfl
   have a1 := HX6.u.here (i := 1) rfl
   have a2 := HX6.u.here (i := 2) rfl
   have a3 := HX6.u.here (i := 3) rfl
   have a4 := HX6.u.here (i := 4) rfl
   have hz : (p.row0 ++ p.row1).size + p.row2.size ≤ 9223372036854775807 := by have := HPs.u; have := Pln.row2_size HFi.u; have := Pln.row3_size HFi.u; omega
   have HP1 := J (show (p.row0 ++ p.row1) ++ p.row2 = p.pcs 1 from rfl)
   rw [show p.pcs 0 = (p.row0 ++ p.row1) from rfl]
   go_wp2_with fail
   refine (line4 (w0 := w) (g := g) (cs := #[.string name, .int .i64 mn, .int .i64 mx, .int .i64 poll, .int .i64 cool, .int .i64 tol, .int .i64 back, .int .i64 after, .int .i64 shift, .int .i64 u0, .int .i64 u1, .int .i64 u2, .int .i64 u3, .int .i64 d0, .int .i64 d1, .int .i64 d2, .int .i64 d3, .slice A ts.length cap]) (A := A) (cap := cap) (ts := ts) p.row2 _ u0 u1 u2 u3 (at_made' _ _ _ _ (by simp)) (HS6.u.alloc _) HR2.u).mono ?_
   rintro e w7 ⟨rfl, hb7, hS7⟩
   have HS7 := J hS7
   have HA7 := J ((HA6.u.alloc _).below hb7 (HA6.u.alloc _).inside)
   clear hb7 hS7 HS6 HA6 HX6 a0 a1 a2 a3 a4
   go_wp2_with fail
   go_round
   case rel => exact ⟨1, by omega, by rw [← HP1.u], by go_num, HS7, HA7⟩
   case measure => simp [intOf]
  by_cases k1 : k = 1
  ·as_aux_lemma =>
   subst k1
   clear k0
   have a0 := HA.u.here (i := 5) rfl
   have a1 := HA.u.here (i := 6) rfl
   have a2 := HA.u.here (i := 7) rfl
   have a3 := HA.u.here (i := 8) rfl
   have a4 := HA.u.here (i := 9) rfl
   go_upto_region 8 with fail
   have HS6 := J (HS.u.alloc (.cells #[.string ⟨#[100, 111, 119, 110]⟩, .int .i64 d0, .int .i64 d1, .int .i64 d2, .int .i64 d3] 166))
   have HA6 := J (HA.u.alloc (.cells #[.string ⟨#[100, 111, 119, 110]⟩, .int .i64 d0, .int .i64 d1, .int .i64 d2, .int .i64 d3] 166))
   have HX6 := J (G.At.made wr 166 #[.string ⟨#[100, 111, 119, 110]⟩, .int .i64 d0, .int .i64 d1, .int .i64 d2, .int .i64 d3])
   generalize wr.alloc (.cells #[.string ⟨#[100, 111, 119, 110]⟩, .int .i64 d0, .int .i64 d1, .int .i64 d2, .int .i64 d3] 166) = W6 at HS6 HA6 HX6 ⊢
   generalize wr.heap.size = b6 at HX6 ⊢
   clear a0 a1 a2 a3 a4 HS HA
   have a0 := HX6.u.here (i := 0) rfl
   have a1 := HX6.u.here (i := 1) rfl
   have a2 := HX6.u.here (i := 2) rfl
   have a3 := HX6.u.here (i := 3) rfl
   have a4 := HX6.u.here (i := 4) rfl
   have hz : ((p.row0 ++ p.row1) ++ p.row2).size + p.row3.size ≤ 9223372036854775807 := by have := HPs.u; have := Pln.row2_size HFi.u; have := Pln.row3_size HFi.u; omega
   have HP1 := J (show ((p.row0 ++ p.row1) ++ p.row2) ++ p.row3 = p.pcs 2 from rfl)
   rw [show p.pcs 1 = ((p.row0 ++ p.row1) ++ p.row2) from rfl]
   go_wp2_with fail
   refine (line4 (w0 := w) (g := g) (cs := #[.string name, .int .i64 mn, .int .i64 mx, .int .i64 poll, .int .i64 cool, .int .i64 tol, .int .i64 back, .int .i64 after, .int .i64 shift, .int .i64 u0, .int .i64 u1, .int .i64 u2, .int .i64 u3, .int .i64 d0, .int .i64 d1, .int .i64 d2, .int .i64 d3, .slice A ts.length cap]) (A := A) (cap := cap) (ts := ts) p.row3 _ d0 d1 d2 d3 (at_made' _ _ _ _ (by simp)) (HS6.u.alloc _) HR3.u).mono ?_
   rintro e w7 ⟨rfl, hb7, hS7⟩
   have HS7 := J hS7
   have HA7 := J ((HA6.u.alloc _).below hb7 (HA6.u.alloc _).inside)
   clear hb7 hS7 HS6 HA6 HX6 a0 a1 a2 a3 a4
   go_wp2_with fail
   go_round
   case rel => exact ⟨2, by omega, by rw [← HP1.u], by go_num, HS7, HA7⟩
   case measure => simp [intOf]
  obtain rfl : k = 2 := by omega
  clear k0 k1 hk HR2 HR3 HA
  as_aux_lemma =>
  rw [show p.pcs 2 = p.up2 0 from rfl]
  have x17 := HS.u.at_.here (i := 17) rfl
  go_wp2_with fail
  clear x17
  go_loopw [5, 77] (fun x y wr => ∃ k : Nat, k ≤ ts.length ∧ x = .string (p.up2 k) ∧ y = .int .i64 k ∧ Hid (PnS w wr g #[.string name, .int .i64 mn, .int .i64 mx, .int .i64 poll, .int .i64 cool, .int .i64 tol, .int .i64 back, .int .i64 after, .int .i64 shift, .int .i64 u0, .int .i64 u1, .int .i64 u2, .int .i64 u3, .int .i64 d0, .int .i64 d1, .int .i64 d2, .int .i64 d3, .slice A ts.length cap] A cap ts)) (fun _ y _ => ts.length - (intOf y).toNat)
  case atStart => exact ⟨0, by omega, rfl, rfl, HS⟩
  clear HS
  obtain ⟨k, hk, rfl, rfl, HS⟩ := hrel
  have i0 : (0 : Int) ≤ (k : Int) := by omega
  by_cases hlt : k < ts.length
  ·as_aux_lemma =>
   obtain ⟨t, htk⟩ := G.get_some ts hlt
   obtain ⟨A', cap', e, hc⟩ := HS.u.row
   cases e
   obtain ⟨b, off, rfl, hbl, hcl⟩ := hc (by omega)
   have HFk := J (HF.u t (List.mem_of_getElem? htk))
   have HEk := J (trigE_cases (HFi.u.each t (by rw [HTs.u]; exact List.mem_of_getElem? htk)))
   have HNx := J (Pln.up2_next (p := p) (k := k) (t := t) (by rw [HTs.u]; exact htk))
   have HUp := J (Pln.up2_size HFi.u k)
   have HTz := J (Trg.text_size (HFi.u.each t (by rw [HTs.u]; exact List.mem_of_getElem? htk)))
   obtain ⟨kind, target, act, ⟨ai, ah, ad, am, aw, aa, ab⟩, ⟨bi, bh, bd, bm, bw, ba, bb⟩⟩ := t
   have c0 : wr.cell? ⟨b, off + k * 17, none⟩ = some (.int .i64 kind) := hcl k _ 0 _ htk rfl; have c1 : wr.cell? ⟨b, off + k * 17 + 1, none⟩ = some (.int .i64 target) := hcl k _ 1 _ htk rfl; have c2 : wr.cell? ⟨b, off + k * 17 + 2, none⟩ = some (.int .i64 act) := hcl k _ 2 _ htk rfl; have c3 : wr.cell? ⟨b, off + k * 17 + 3, none⟩ = some (.int .u64 (ai : Int)) := hcl k _ 3 _ htk rfl; have c4 : wr.cell? ⟨b, off + k * 17 + 4, none⟩ = some (.int .u64 (ah : Int)) := hcl k _ 4 _ htk rfl; have c5 : wr.cell? ⟨b, off + k * 17 + 5, none⟩ = some (.int .u64 (ad : Int)) := hcl k _ 5 _ htk rfl; have c6 : wr.cell? ⟨b, off + k * 17 + 6, none⟩ = some (.int .u64 (am : Int)) := hcl k _ 6 _ htk rfl; have c7 : wr.cell? ⟨b, off + k * 17 + 7, none⟩ = some (.int .u64 (aw : Int)) := hcl k _ 7 _ htk rfl; have c8 : wr.cell? ⟨b, off + k * 17 + 8, none⟩ = some (.bool aa) := hcl k _ 8 _ htk rfl; have c9 : wr.cell? ⟨b, off + k * 17 + 9, none⟩ = some (.bool ab) := hcl k _ 9 _ htk rfl; have c10 : wr.cell? ⟨b, off + k * 17 + 10, none⟩ = some (.int .u64 (bi : Int)) := hcl k _ 10 _ htk rfl; have c11 : wr.cell? ⟨b, off + k * 17 + 11, none⟩ = some (.int .u64 (bh : Int)) := hcl k _ 11 _ htk rfl; have c12 : wr.cell? ⟨b, off + k * 17 + 12, none⟩ = some (.int .u64 (bd : Int)) := hcl k _ 12 _ htk rfl; have c13 : wr.cell? ⟨b, off + k * 17 + 13, none⟩ = some (.int .u64 (bm : Int)) := hcl k _ 13 _ htk rfl; have c14 : wr.cell? ⟨b, off + k * 17 + 14, none⟩ = some (.int .u64 (bw : Int)) := hcl k _ 14 _ htk rfl; have c15 : wr.cell? ⟨b, off + k * 17 + 15, none⟩ = some (.bool ba) := hcl k _ 15 _ htk rfl; have c16 : wr.cell? ⟨b, off + k * 17 + 16, none⟩ = some (.bool bb) := hcl k _ 16 _ htk rfl
   have i1 : (k : Int) < (ts.length : Int) := by omega
   have HK := J hlt
   clear hc hcl htk hk hlt
   go_upto_region 13 with fail
   have HS2 := J (HS.u.alloc (.cells #[.int .i64 kind, .int .i64 target, .int .i64 act, .int .u64 (ai : Int), .int .u64 (ah : Int), .int .u64 (ad : Int), .int .u64 (am : Int), .int .u64 (aw : Int), .bool aa, .bool ab, .int .u64 (bi : Int), .int .u64 (bh : Int), .int .u64 (bd : Int), .int .u64 (bm : Int), .int .u64 (bw : Int), .bool ba, .bool bb] 171))
   have HT := J (G.At.made wr 171 #[.int .i64 kind, .int .i64 target, .int .i64 act, .int .u64 (ai : Int), .int .u64 (ah : Int), .int .u64 (ad : Int), .int .u64 (am : Int), .int .u64 (aw : Int), .bool aa, .bool ab, .int .u64 (bi : Int), .int .u64 (bh : Int), .int .u64 (bd : Int), .int .u64 (bm : Int), .int .u64 (bw : Int), .bool ba, .bool bb])
   generalize wr.alloc (.cells #[.int .i64 kind, .int .i64 target, .int .i64 act, .int .u64 (ai : Int), .int .u64 (ah : Int), .int .u64 (ad : Int), .int .u64 (am : Int), .int .u64 (aw : Int), .bool aa, .bool ab, .int .u64 (bi : Int), .int .u64 (bh : Int), .int .u64 (bd : Int), .int .u64 (bm : Int), .int .u64 (bw : Int), .bool ba, .bool bb] 171) = W2 at HT HS2 ⊢
   generalize wr.heap.size = g2 at HT ⊢
   clear c0 c1 c2 c3 c4 c5 c6 c7 c8 c9 c10 c11 c12 c13 c14 c15 c16 HS
   have HRel := HNx.u
   obtain ⟨Y, HY⟩ : ∃ Y, Hid (p.up2 k = Y) := ⟨_, J rfl⟩
   rw [HY.u] at HRel HUp ⊢
   have HNy := J HRel
   clear HRel HNx
   by_cases k3 : kind = 3
   ·as_aux_lemma =>
    subst k3
    have HE3 := J (show IntW target ∧ Cr.err ⟨ai, ah, ad, am, aw, aa, ab⟩ = 0 ∧ Cr.err ⟨bi, bh, bd, bm, bw, ba, bb⟩ = 0 by rcases HEk.u with ⟨h, _⟩ | ⟨_, h⟩; (have h' : ((3 : Int) = 1 ∨ (3 : Int) = 2) := h; omega); exact h)
    obtain ⟨ta, HTa⟩ : ∃ ta, Hid (Cr.text ⟨ai, ah, ad, am, aw, aa, ab⟩ = ta) := ⟨_, J rfl⟩
    obtain ⟨tb, HTb⟩ : ∃ tb, Hid (Cr.text ⟨bi, bh, bd, bm, bw, ba, bb⟩ = tb) := ⟨_, J rfl⟩
    have HTx := J (show Trg.text ⟨3, target, act, ⟨ai, ah, ad, am, aw, aa, ab⟩, ⟨bi, bh, bd, bm, bw, ba, bb⟩⟩ = spanTxt target ta tb by rw [← HTa.u, ← HTb.u]; rfl)
    have HNz := J (HNy.u.trans (congrArg (Y ++ ·) HTx.u))
    have c0 := HT.u.here (i := 0) rfl
    have c3 := HT.u.here (i := 3) rfl
    have c4 := HT.u.here (i := 4) rfl
    have c5 := HT.u.here (i := 5) rfl
    have c6 := HT.u.here (i := 6) rfl
    have c7 := HT.u.here (i := 7) rfl
    have c8 := HT.u.here (i := 8) rfl
    have c9 := HT.u.here (i := 9) rfl
    go_wp2_with fail
    refine (sayPrint ⟨ai, ah, ad, am, aw, aa, ab⟩ HFk.u.1 ta HE3.u.2.1 HTa.u _).mono ?_
    rintro e w3 ⟨rfl, hb3⟩
    have HS3 := J (HS2.u.next hb3)
    have HT3 := J (HT.u.below hb3 HT.u.inside)
    clear hb3 HS2 HT c0 c3 c4 c5 c6 c7 c8 c9
    have c10 := HT3.u.here (i := 10) rfl
    have c11 := HT3.u.here (i := 11) rfl
    have c12 := HT3.u.here (i := 12) rfl
    have c13 := HT3.u.here (i := 13) rfl
    have c14 := HT3.u.here (i := 14) rfl
    have c15 := HT3.u.here (i := 15) rfl
    have c16 := HT3.u.here (i := 16) rfl
    go_wp2_with fail
    refine (sayPrint ⟨bi, bh, bd, bm, bw, ba, bb⟩ HFk.u.2 tb HE3.u.2.2 HTb.u _).mono ?_
    rintro e w4 ⟨rfl, hb4⟩
    have HS4 := J (HS3.u.next hb4)
    have HT4 := J (HT3.u.below hb4 HT3.u.inside)
    clear hb4 HS3 HT3 c10 c11 c12 c13 c14 c15 c16
    have c1 := HT4.u.here (i := 1) rfl
    go_wp2_with fail
    refine (sayItoa target HE3.u.1 HS4.u).mono ?_
    rintro e w5 ⟨rfl, hb5, hS5⟩
    have HS5 := J hS5
    clear hb5 hS5 HS4 HT4 c1
    have sa : ta.size ≤ 2005 := by rw [← HTa.u]; exact Cr.text_size _
    have sb : tb.size ≤ 2005 := by rw [← HTb.u]; exact Cr.text_size _
    have si := G.itoB_size HE3.u.1
    have sy := HUp.u
    have e1 : (⟨#[115, 112, 97, 110, 32]⟩ : ByteArray).size = 5 := rfl
    have e2 : (⟨#[32]⟩ : ByteArray).size = 1 := rfl
    have e3 : (⟨#[32, 47, 32]⟩ : ByteArray).size = 3 := rfl
    have e4 : (⟨#[10]⟩ : ByteArray).size = 1 := rfl
    have m0 : ((⟨#[115, 112, 97, 110, 32]⟩ : ByteArray)).size + (G.itoB target).size ≤ 9223372036854775807 := by (try simp only [ByteArray.size_append]); omega
    have m1 : (((⟨#[115, 112, 97, 110, 32]⟩ : ByteArray) ++ G.itoB target)).size + ((⟨#[32]⟩ : ByteArray)).size ≤ 9223372036854775807 := by (try simp only [ByteArray.size_append]); omega
    have m2 : ((((⟨#[115, 112, 97, 110, 32]⟩ : ByteArray) ++ G.itoB target) ++ (⟨#[32]⟩ : ByteArray))).size + (ta).size ≤ 9223372036854775807 := by (try simp only [ByteArray.size_append]); omega
    have m3 : (((((⟨#[115, 112, 97, 110, 32]⟩ : ByteArray) ++ G.itoB target) ++ (⟨#[32]⟩ : ByteArray)) ++ ta)).size + ((⟨#[32, 47, 32]⟩ : ByteArray)).size ≤ 9223372036854775807 := by (try simp only [ByteArray.size_append]); omega
    have m4 : ((((((⟨#[115, 112, 97, 110, 32]⟩ : ByteArray) ++ G.itoB target) ++ (⟨#[32]⟩ : ByteArray)) ++ ta) ++ (⟨#[32, 47, 32]⟩ : ByteArray))).size + (tb).size ≤ 9223372036854775807 := by (try simp only [ByteArray.size_append]); omega
    have m5 : (((((((⟨#[115, 112, 97, 110, 32]⟩ : ByteArray) ++ G.itoB target) ++ (⟨#[32]⟩ : ByteArray)) ++ ta) ++ (⟨#[32, 47, 32]⟩ : ByteArray)) ++ tb)).size + ((⟨#[10]⟩ : ByteArray)).size ≤ 9223372036854775807 := by (try simp only [ByteArray.size_append]); omega
    have m6 : Y.size + (((((((⟨#[115, 112, 97, 110, 32]⟩ : ByteArray) ++ G.itoB target) ++ (⟨#[32]⟩ : ByteArray)) ++ ta) ++ (⟨#[32, 47, 32]⟩ : ByteArray)) ++ tb) ++ (⟨#[10]⟩ : ByteArray)).size ≤ 9223372036854775807 := by (try simp only [ByteArray.size_append]); omega
    have HSp := J (show (((((((⟨#[115, 112, 97, 110, 32]⟩ : ByteArray) ++ G.itoB target) ++ (⟨#[32]⟩ : ByteArray)) ++ ta) ++ (⟨#[32, 47, 32]⟩ : ByteArray)) ++ tb) ++ (⟨#[10]⟩ : ByteArray)) = spanTxt target ta tb from rfl)
    clear sa sb si sy e1 e2 e3 e4
    go_wp2_with fail
    refine ⟨?_, ?_⟩
    ·(repeat apply Exists.intro)
     refine ⟨?_, rfl⟩
     exact ⟨k + 1, by have := HK.u; omega, by rw [HNz.u, ← HSp.u], by go_num, HS5⟩
    have := HK.u; simp [intOf]; omega
   have HE3 := J (show (kind = 1 ∨ kind = 2) ∧ IntW target ∧ IntW act by rcases HEk.u with h | ⟨h, _⟩; exact h; exact absurd h k3)
   clear k3
   rcases HE3.u.1 with hk | hk
   ·as_aux_lemma =>
    subst hk
    obtain ⟨tx, HTx⟩ : ∃ tx, Hid (Trg.text ⟨1, target, act, ⟨ai, ah, ad, am, aw, aa, ab⟩, ⟨bi, bh, bd, bm, bw, ba, bb⟩⟩ = tx) := ⟨_, J rfl⟩
    have HDu := J (show DuoF tx ⟨#[108, 97, 103]⟩ target act from ⟨two_in HE3.u.2.1 HE3.u.2.2, by decide, by rw [← HTx.u]; rfl⟩)
    have HSz := J (show tx.size ≤ 4050 by rw [← HTx.u]; exact HTz.u)
    have HNz := J (HNy.u.trans (congrArg (Y ++ ·) HTx.u))
    have c0 := HT.u.here (i := 0) rfl
    have c1 := HT.u.here (i := 1) rfl
    have c2 := HT.u.here (i := 2) rfl
    go_wp2_with fail
    refine (line2 (w0 := w) (g := g) (cs := #[.string name, .int .i64 mn, .int .i64 mx, .int .i64 poll, .int .i64 cool, .int .i64 tol, .int .i64 back, .int .i64 after, .int .i64 shift, .int .i64 u0, .int .i64 u1, .int .i64 u2, .int .i64 u3, .int .i64 d0, .int .i64 d1, .int .i64 d2, .int .i64 d3, .slice (some ⟨b, off, none⟩) ts.length cap]) (A := some ⟨b, off, none⟩) (cap := cap) (ts := ts) tx _ target act (at_made' _ _ _ _ (by simp)) (HS2.u.alloc _) HDu.u).mono ?_
    rintro e w3 ⟨rfl, hb3, hS3⟩
    have HS3 := J hS3
    clear hb3 hS3 HS2 HT c0 c1 c2
    have n0 : Y.size + tx.size ≤ 9223372036854775807 := by have := HUp.u; have := HSz.u; omega
    go_wp2_with fail
    refine ⟨?_, ?_⟩
    ·(repeat apply Exists.intro)
     refine ⟨?_, rfl⟩
     exact ⟨k + 1, by have := HK.u; omega, by rw [HNz.u], by go_num, HS3⟩
    have := HK.u; simp [intOf]; omega
   as_aux_lemma =>
   subst hk
   obtain ⟨tx, HTx⟩ : ∃ tx, Hid (Trg.text ⟨2, target, act, ⟨ai, ah, ad, am, aw, aa, ab⟩, ⟨bi, bh, bd, bm, bw, ba, bb⟩⟩ = tx) := ⟨_, J rfl⟩
   have HDu := J (show DuoF tx ⟨#[100, 101, 112, 116, 104]⟩ target act from ⟨two_in HE3.u.2.1 HE3.u.2.2, by decide, by rw [← HTx.u]; rfl⟩)
   have HSz := J (show tx.size ≤ 4050 by rw [← HTx.u]; exact HTz.u)
   have HNz := J (HNy.u.trans (congrArg (Y ++ ·) HTx.u))
   have c0 := HT.u.here (i := 0) rfl
   have c1 := HT.u.here (i := 1) rfl
   have c2 := HT.u.here (i := 2) rfl
   go_wp2_with fail
   refine (line2 (w0 := w) (g := g) (cs := #[.string name, .int .i64 mn, .int .i64 mx, .int .i64 poll, .int .i64 cool, .int .i64 tol, .int .i64 back, .int .i64 after, .int .i64 shift, .int .i64 u0, .int .i64 u1, .int .i64 u2, .int .i64 u3, .int .i64 d0, .int .i64 d1, .int .i64 d2, .int .i64 d3, .slice (some ⟨b, off, none⟩) ts.length cap]) (A := some ⟨b, off, none⟩) (cap := cap) (ts := ts) tx _ target act (at_made' _ _ _ _ (by simp)) (HS2.u.alloc _) HDu.u).mono ?_
   rintro e w3 ⟨rfl, hb3, hS3⟩
   have HS3 := J hS3
   clear hb3 hS3 HS2 HT c0 c1 c2
   have n0 : Y.size + tx.size ≤ 9223372036854775807 := by have := HUp.u; have := HSz.u; omega
   go_wp2_with fail
   refine ⟨?_, ?_⟩
   ·(repeat apply Exists.intro)
    refine ⟨?_, rfl⟩
    exact ⟨k + 1, by have := HK.u; omega, by rw [HNz.u], by go_num, HS3⟩
   have := HK.u; simp [intOf]; omega
  obtain rfl : k = ts.length := by omega
  have HAll := J (show p.up2 ts.length = p.text by rw [← HTs.u]; exact Pln.up2_all)
  have HBe := J (HQ.u wr HS.u.below)
  clear hk hlt
  rw [HAll.u]
  go_wp2_with fail
  go_ret2
  rw [hp.u]; exact HBe.u
 have hN : (R == 0) = false := by simpa using he
 have hN2 : (R != 0) = true := by simpa using he
 have HQ := J (show PrnPost p w (.returned (.tuple #[.string ⟨#[]⟩, .int .i64 R])) w1 from ⟨by rw [if_neg (by rw [HR.u]; exact he), HR.u], HS1.u.below⟩)
 rw [HR.u]
 clear he
 go_wp2_with fail
 go_ret2
 rw [hp.u]; exact HQ.u
end Go.Proofs.YtoidcbpcnikejaaGreatDoor
