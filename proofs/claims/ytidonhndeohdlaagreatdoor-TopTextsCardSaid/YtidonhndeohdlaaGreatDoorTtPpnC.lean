/- The contract of plan.Print. -/
import Derived.RegionTactic
import Derived.Test.YtidonhndeohdlaaGreatDoorTk
import Derived.Test.YtidonhndeohdlaaGreatDoorTt24
import Derived.Test.YtidonhndeohdlaaGreatDoorTtPlnE
import Derived.Test.YtidonhndeohdlaaGreatDoorTtCrnP
import Derived.Test.YtidonhndeohdlaaGreatDoorTt01
set_option linter.unusedVariables false
set_option linter.unusedSimpArgs false
namespace Go.Proofs.YtidonhndeohdlaaGreatDoor
open Go.RowKit
def Pln.pcs (p : Pln) : Nat → ByteArray
  | 0 => p.row0 ++ p.row1
  | 1 => (p.row0 ++ p.row1) ++ p.row2
  | _ => p.top
theorem Pln.pcs_size {p : Pln} (h : p.fine) : (p.row0 ++ p.row1).size ≤ 220 ∧ ((p.row0 ++ p.row1) ++ p.row2).size ≤ 330 := by
  have := row0_size h; have := row1_size h; have := row2_size h
  simp only [ByteArray.size_append]
  omega
theorem pnKeep {w W : World} {g : Nat} {A : Option Addr} {cap : Nat} {ts : List Trg} {name : ByteArray} {mn mx poll cool tol back after shift u0 u1 u2 u3 d0 d1 d2 d3 : Int} (h : PnS w W g #[.string name, .int .i64 mn, .int .i64 mx, .int .i64 poll, .int .i64 cool, .int .i64 tol, .int .i64 back, .int .i64 after, .int .i64 shift, .int .i64 u0, .int .i64 u1, .int .i64 u2, .int .i64 u3, .int .i64 d0, .int .i64 d1, .int .i64 d2, .int .i64 d3, .slice A ts.length cap] A cap ts) : W.cell? ⟨g, 0, none⟩ = some (.string name) ∧ W.cell? ⟨g, 1, none⟩ = some (.int .i64 mn) ∧ W.cell? ⟨g, 2, none⟩ = some (.int .i64 mx) ∧ W.cell? ⟨g, 3, none⟩ = some (.int .i64 poll) ∧ W.cell? ⟨g, 4, none⟩ = some (.int .i64 cool) ∧ W.cell? ⟨g, 5, none⟩ = some (.int .i64 tol) ∧ W.cell? ⟨g, 6, none⟩ = some (.int .i64 back) ∧ W.cell? ⟨g, 7, none⟩ = some (.int .i64 after) ∧ W.cell? ⟨g, 8, none⟩ = some (.int .i64 shift) ∧ PnS w W g #[.string name, .int .i64 mn, .int .i64 mx, .int .i64 poll, .int .i64 cool, .int .i64 tol, .int .i64 back, .int .i64 after, .int .i64 shift, .int .i64 u0, .int .i64 u1, .int .i64 u2, .int .i64 u3, .int .i64 d0, .int .i64 d1, .int .i64 d2, .int .i64 d3, .slice A ts.length cap] A cap ts := ⟨h.at_.here rfl, h.at_.here rfl, h.at_.here rfl, h.at_.here rfl, h.at_.here rfl, h.at_.here rfl, h.at_.here rfl, h.at_.here rfl, h.at_.here rfl, h⟩
theorem row_info : (Tryz.prog.info? 57).map (fun i => (i.zero, i.size)) = some (some (.agg #[.string ⟨#[]⟩, .int .i64 0, .int .i64 0, .int .i64 0, .int .i64 0]), 5) := by kernel_rfl
theorem row_built (word : ByteArray) (a b c d : Int) : Tryz.prog.built 57 [(0, .string word), (1, .agg #[.int .i64 a, .int .i64 b, .int .i64 c, .int .i64 d])] = some #[.string word, .int .i64 a, .int .i64 b, .int .i64 c, .int .i64 d] := by kernel_rfl
theorem row_fill (u0 u1 u2 u3 d0 d1 d2 d3 : Int) : Instr.fill (fun i => some (i * 5, 5)) ((Array.range (2 * 5)).map ((Value.agg #[.string ⟨#[]⟩, .int .i64 0, .int .i64 0, .int .i64 0, .int .i64 0]).cells[· % (Value.agg #[.string ⟨#[]⟩, .int .i64 0, .int .i64 0, .int .i64 0, .int .i64 0]).cells.size]!)) [(0, .agg #[.string ⟨#[117, 112]⟩, .int .i64 u0, .int .i64 u1, .int .i64 u2, .int .i64 u3]), (1, .agg #[.string ⟨#[100, 111, 119, 110]⟩, .int .i64 d0, .int .i64 d1, .int .i64 d2, .int .i64 d3])] = some #[.string ⟨#[117, 112]⟩, .int .i64 u0, .int .i64 u1, .int .i64 u2, .int .i64 u3, .string ⟨#[100, 111, 119, 110]⟩, .int .i64 d0, .int .i64 d1, .int .i64 d2, .int .i64 d3] := by kernel_rfl
theorem sayPrint (c : Cr) (hf : c.fits) (t : ByteArray) (he : c.err = 0) (ht : c.text = t) (w : World) : Calls Tryz.prog 19 #[.agg c.cells] w fun e w' => e = .returned (.tuple #[.string t, .int .i64 0]) ∧ Below w.heap.size w w' :=
  (cronPrint c hf w).mono fun _ _ ⟨h, hb⟩ => ⟨by rw [h, if_pos he, he, ht], hb⟩
set_option maxRecDepth 100000 in
set_option maxHeartbeats 6400000 in
theorem planPrint (name : ByteArray) (mn mx poll cool tol back after shift u0 u1 u2 u3 d0 d1 d2 d3 : Int) (A : Option Addr) (cap : Nat) (ts : List Trg) (w : World) (ht : Tide.ListIn w 17 Trg.enc (.slice A ts.length cap) ts) (hf : ∀ t ∈ ts, t.fits) (hn : name.size ≤ 9223372036854775807) (hl : ts.length ≤ 9223372036854775807) (hT : PowTab w) :
    Calls Tryz.prog 5 #[.agg #[.string name, .int .i64 mn, .int .i64 mx, .int .i64 poll, .int .i64 cool, .int .i64 tol, .int .i64 back, .int .i64 after, .int .i64 shift, .int .i64 u0, .int .i64 u1, .int .i64 u2, .int .i64 u3, .int .i64 d0, .int .i64 d1, .int .i64 d2, .int .i64 d3, .slice A ts.length cap]] w (PrnPost (⟨name, mn, mx, poll, cool, tol, back, after, shift, ⟨u0, u1, u2, u3⟩, ⟨d0, d1, d2, d3⟩, ts⟩ : Pln) w) := by
  have HS := Lib.hid (show PnS w (w.alloc (.cells #[.string name, .int .i64 mn, .int .i64 mx, .int .i64 poll, .int .i64 cool, .int .i64 tol, .int .i64 back, .int .i64 after, .int .i64 shift, .int .i64 u0, .int .i64 u1, .int .i64 u2, .int .i64 u3, .int .i64 d0, .int .i64 d1, .int .i64 d2, .int .i64 d3, .slice A ts.length cap] 26)) w.heap.size #[.string name, .int .i64 mn, .int .i64 mx, .int .i64 poll, .int .i64 cool, .int .i64 tol, .int .i64 back, .int .i64 after, .int .i64 shift, .int .i64 u0, .int .i64 u1, .int .i64 u2, .int .i64 u3, .int .i64 d0, .int .i64 d1, .int .i64 d2, .int .i64 d3, .slice A ts.length cap] A cap ts from
    have hb := (Below.refl w.heap.size w).alloc (Nat.le_refl _) (.cells #[.string name, .int .i64 mn, .int .i64 mx, .int .i64 poll, .int .i64 cool, .int .i64 tol, .int .i64 back, .int .i64 after, .int .i64 shift, .int .i64 u0, .int .i64 u1, .int .i64 u2, .int .i64 u3, .int .i64 d0, .int .i64 d1, .int .i64 d2, .int .i64 d3, .slice A ts.length cap] 26)
    ⟨Tide.At.made w 26 #[.string name, .int .i64 mn, .int .i64 mx, .int .i64 poll, .int .i64 cool, .int .i64 tol, .int .i64 back, .int .i64 after, .int .i64 shift, .int .i64 u0, .int .i64 u1, .int .i64 u2, .int .i64 u3, .int .i64 d0, .int .i64 d1, .int .i64 d2, .int .i64 d3, .slice A ts.length cap], hT.below hb, ht.below hb (Nat.le_refl _), hb⟩)
  have HF := Lib.hid hf; have HN := Lib.hid hn; have HL := Lib.hid hl
  clear ht hT hf hn hl
  go_enter Tryz.func5, Tryz.ntmps5
  go_upto_region 1 with fail
  generalize w.alloc (.cells #[.string name, .int .i64 mn, .int .i64 mx, .int .i64 poll, .int .i64 cool, .int .i64 tol, .int .i64 back, .int .i64 after, .int .i64 shift, .int .i64 u0, .int .i64 u1, .int .i64 u2, .int .i64 u3, .int .i64 d0, .int .i64 d1, .int .i64 d2, .int .i64 d3, .slice A ts.length cap] 26) = W at HS ⊢
  go_wp2_with (refine wpList_load_row rfl 26 (.tmp 1) rfl w.heap.size rfl 26 _ (0, 0) _ HS.out.at_ Tryz.underlying26 rfl (by kernel_rfl) ?_)
  refine (planCheck name mn mx poll cool tol back after shift u0 u1 u2 u3 d0 d1 d2 d3 A cap ts _ HS.out.row HF.out HN.out HL.out).mono ?_
  rintro e w1 ⟨rfl, hb1⟩
  have HS1 := Lib.hid (HS.out.next hb1)
  clear hb1 HS
  generalize w.heap.size = g at HS1 ⊢
  obtain ⟨p, hp⟩ : ∃ p : Pln, Hid ((⟨name, mn, mx, poll, cool, tol, back, after, shift, ⟨u0, u1, u2, u3⟩, ⟨d0, d1, d2, d3⟩, ts⟩ : Pln) = p) := ⟨_, Lib.hid rfl⟩
  rw [hp.out]
  obtain ⟨R, HR⟩ : ∃ R, Hid (planE p = R) := ⟨_, Lib.hid rfl⟩
  by_cases he : R = 0
  · as_aux_lemma =>
    subst he
    rw [HR.out]
    have HFi := Lib.hid (planE_fine HR.out)
    have HQ := Lib.hid (fun w' (hb : Below w.heap.size w w') => (show PrnPost p w (.returned (.tuple #[.string p.text, .int .i64 0])) w' from ⟨by rw [if_pos HR.out, HR.out], hb⟩))
    have HI0 := Lib.hid (show ∀ x ∈ [mn, mx, poll, cool], IntW x by have := HFi.out.i0; rw [← hp.out] at this; exact this)
    have HI1 := Lib.hid (show ∀ x ∈ [tol, back, after, shift], IntW x by have := HFi.out.i1; rw [← hp.out] at this; exact this)
    have HI2 := Lib.hid (show ∀ x ∈ [u0, u1, u2, u3], IntW x by have := HFi.out.i2; rw [← hp.out] at this; exact this)
    have HI3 := Lib.hid (show ∀ x ∈ [d0, d1, d2, d3], IntW x by have := HFi.out.i3; rw [← hp.out] at this; exact this)
    have HR0 := Lib.hid (show RowF p.row0 ((⟨#[112, 108, 97, 110, 32]⟩ : ByteArray) ++ name) mn mx poll cool from ⟨HI0.out, by have := Pln.word_size HFi.out; rw [← hp.out] at this; exact Nat.le_trans this (by decide), by rw [← hp.out]; rfl⟩)
    have HR1 := Lib.hid (show RowF p.row1 ⟨#[114, 101, 115, 116]⟩ tol back after shift from ⟨HI1.out, by decide, by rw [← hp.out]; rfl⟩)
    have HR2 := Lib.hid (show RowF p.row2 ⟨#[117, 112]⟩ u0 u1 u2 u3 from ⟨HI2.out, by decide, by rw [← hp.out]; rfl⟩)
    have HR3 := Lib.hid (show RowF p.row3 ⟨#[100, 111, 119, 110]⟩ d0 d1 d2 d3 from ⟨HI3.out, by decide, by rw [← hp.out]; rfl⟩)
    have HNm := Lib.hid (show p.name.size ≤ 16 from HFi.out.name)
    have HNe := Lib.hid (show p.name = name by rw [← hp.out])
    have HTs := Lib.hid (show p.trigs = ts by rw [← hp.out])
    have hfew : (ts.length : Int) ≤ 5 := by have := HFi.out.few; rw [HTs.out] at this; omega
    clear HI0 HI1 HI2 HI3
    go_upto_region 4 with fail
    go_cut [5] (fun x wy => x = .string (p.row0 ++ p.row1) ∧ Hid (PnS w wy g #[.string name, .int .i64 mn, .int .i64 mx, .int .i64 poll, .int .i64 cool, .int .i64 tol, .int .i64 back, .int .i64 after, .int .i64 shift, .int .i64 u0, .int .i64 u1, .int .i64 u2, .int .i64 u3, .int .i64 d0, .int .i64 d1, .int .i64 d2, .int .i64 d3, .slice A ts.length cap] A cap ts))
    case first =>
      have hz0b : (5 : Int) + (name.size : Int) ≤ 9223372036854775807 := by have := HNm.out; rw [HNe.out] at this; omega
      have hz0c : 5 + name.size ≤ 9223372036854775807 := by omega
      have hz1 : (p.row0.size : Int) + (p.row1.size : Int) ≤ 9223372036854775807 := by have := Pln.row0_size HFi.out; have := Pln.row1_size HFi.out; omega
      have hz1c : p.row0.size + p.row1.size ≤ 9223372036854775807 := by omega
      have hS0 := HS1.out
      have hS := HS1.out.drew
      refine wp_region_held_drew (S := (fun w' => w'.cell? ⟨g, 0, none⟩ = some (.string name) ∧ w'.cell? ⟨g, 1, none⟩ = some (.int .i64 mn) ∧ w'.cell? ⟨g, 2, none⟩ = some (.int .i64 mx) ∧ w'.cell? ⟨g, 3, none⟩ = some (.int .i64 poll) ∧ w'.cell? ⟨g, 4, none⟩ = some (.int .i64 cool) ∧ w'.cell? ⟨g, 5, none⟩ = some (.int .i64 tol) ∧ w'.cell? ⟨g, 6, none⟩ = some (.int .i64 back) ∧ w'.cell? ⟨g, 7, none⟩ = some (.int .i64 after) ∧ w'.cell? ⟨g, 8, none⟩ = some (.int .i64 shift) ∧ PnS w w' g #[.string name, .int .i64 mn, .int .i64 mx, .int .i64 poll, .int .i64 cool, .int .i64 tol, .int .i64 back, .int .i64 after, .int .i64 shift, .int .i64 u0, .int .i64 u1, .int .i64 u2, .int .i64 u3, .int .i64 d0, .int .i64 d1, .int .i64 d2, .int .i64 d3, .slice A ts.length cap] A cap ts)) (by kernel_rfl) (pnKeep hS) (fun hS9 => ?_)
      change wpAnyH _ _ _ _ _ 25 #[false, false, false, false, false, false, false, false, false, false, false, false, false, false, false, false, false, false, false, false, false, false, false, false, false] _ (World.drew _)
      have P0 := hS
      clear hS hS0
      generalize w1.drew = W0 at P0 hS9 ⊢
      refine tk 0 (.pointer (some ⟨g, 0, none⟩)) rfl (.inl ⟨by rfl, fun W hW => ?_⟩) hS9 ?_
      · obtain ⟨z0, z1, z2, z3, z4, z5, z6, z7, z8, z9⟩ := hW; go_simp
      simp only [Act.put, tkA, tkB, tkC, tkD, tkE, tkF]
      refine tk 1 (.string name) rfl (.inl ⟨by rfl, fun W hW => ?_⟩) hS9 ?_
      · obtain ⟨z0, z1, z2, z3, z4, z5, z6, z7, z8, z9⟩ := hW; go_simp
      simp only [Act.put, tkA, tkB, tkC, tkD, tkE, tkF]
      refine tk 2 (.string ((⟨#[112, 108, 97, 110, 32]⟩ : ByteArray) ++ name)) rfl (.inl ⟨by rfl, fun W hW => ?_⟩) hS9 ?_
      · obtain ⟨z0, z1, z2, z3, z4, z5, z6, z7, z8, z9⟩ := hW; go_simp
      simp only [Act.put, tkA, tkB, tkC, tkD, tkE, tkF]
      refine tk 3 (.pointer (some ⟨g, 1, none⟩)) rfl (.inl ⟨by rfl, fun W hW => ?_⟩) hS9 ?_
      · obtain ⟨z0, z1, z2, z3, z4, z5, z6, z7, z8, z9⟩ := hW; go_simp
      simp only [Act.put, tkA, tkB, tkC, tkD, tkE, tkF]
      refine tk 4 (.int .i64 mn) rfl (.inl ⟨by rfl, fun W hW => ?_⟩) hS9 ?_
      · obtain ⟨z0, z1, z2, z3, z4, z5, z6, z7, z8, z9⟩ := hW; go_simp
      simp only [Act.put, tkA, tkB, tkC, tkD, tkE, tkF]
      refine tk 5 (.pointer (some ⟨g, 2, none⟩)) rfl (.inl ⟨by rfl, fun W hW => ?_⟩) hS9 ?_
      · obtain ⟨z0, z1, z2, z3, z4, z5, z6, z7, z8, z9⟩ := hW; go_simp
      simp only [Act.put, tkA, tkB, tkC, tkD, tkE, tkF]
      refine tk 6 (.int .i64 mx) rfl (.inl ⟨by rfl, fun W hW => ?_⟩) hS9 ?_
      · obtain ⟨z0, z1, z2, z3, z4, z5, z6, z7, z8, z9⟩ := hW; go_simp
      simp only [Act.put, tkA, tkB, tkC, tkD, tkE, tkF]
      refine tk 7 (.pointer (some ⟨g, 3, none⟩)) rfl (.inl ⟨by rfl, fun W hW => ?_⟩) hS9 ?_
      · obtain ⟨z0, z1, z2, z3, z4, z5, z6, z7, z8, z9⟩ := hW; go_simp
      simp only [Act.put, tkA, tkB, tkC, tkD, tkE, tkF]
      refine tk 8 (.int .i64 poll) rfl (.inl ⟨by rfl, fun W hW => ?_⟩) hS9 ?_
      · obtain ⟨z0, z1, z2, z3, z4, z5, z6, z7, z8, z9⟩ := hW; go_simp
      simp only [Act.put, tkA, tkB, tkC, tkD, tkE, tkF]
      refine tk 9 (.pointer (some ⟨g, 4, none⟩)) rfl (.inl ⟨by rfl, fun W hW => ?_⟩) hS9 ?_
      · obtain ⟨z0, z1, z2, z3, z4, z5, z6, z7, z8, z9⟩ := hW; go_simp
      simp only [Act.put, tkA, tkB, tkC, tkD, tkE, tkF]
      refine tk 10 (.int .i64 cool) rfl (.inl ⟨by rfl, fun W hW => ?_⟩) hS9 ?_
      · obtain ⟨z0, z1, z2, z3, z4, z5, z6, z7, z8, z9⟩ := hW; go_simp
      simp only [Act.put, tkA, tkB, tkC, tkD, tkE, tkF]
      refine tk 13 (.pointer (some ⟨g, 5, none⟩)) rfl (.inl ⟨by rfl, fun W hW => ?_⟩) hS9 ?_
      · obtain ⟨z0, z1, z2, z3, z4, z5, z6, z7, z8, z9⟩ := hW; go_simp
      simp only [Act.put, tkA, tkB, tkC, tkD, tkE, tkF]
      refine tk 14 (.int .i64 tol) rfl (.inl ⟨by rfl, fun W hW => ?_⟩) hS9 ?_
      · obtain ⟨z0, z1, z2, z3, z4, z5, z6, z7, z8, z9⟩ := hW; go_simp
      simp only [Act.put, tkA, tkB, tkC, tkD, tkE, tkF]
      refine tk 15 (.pointer (some ⟨g, 6, none⟩)) rfl (.inl ⟨by rfl, fun W hW => ?_⟩) hS9 ?_
      · obtain ⟨z0, z1, z2, z3, z4, z5, z6, z7, z8, z9⟩ := hW; go_simp
      simp only [Act.put, tkA, tkB, tkC, tkD, tkE, tkF]
      refine tk 16 (.int .i64 back) rfl (.inl ⟨by rfl, fun W hW => ?_⟩) hS9 ?_
      · obtain ⟨z0, z1, z2, z3, z4, z5, z6, z7, z8, z9⟩ := hW; go_simp
      simp only [Act.put, tkA, tkB, tkC, tkD, tkE, tkF]
      refine tk 17 (.pointer (some ⟨g, 7, none⟩)) rfl (.inl ⟨by rfl, fun W hW => ?_⟩) hS9 ?_
      · obtain ⟨z0, z1, z2, z3, z4, z5, z6, z7, z8, z9⟩ := hW; go_simp
      simp only [Act.put, tkA, tkB, tkC, tkD, tkE, tkF]
      refine tk 18 (.int .i64 after) rfl (.inl ⟨by rfl, fun W hW => ?_⟩) hS9 ?_
      · obtain ⟨z0, z1, z2, z3, z4, z5, z6, z7, z8, z9⟩ := hW; go_simp
      simp only [Act.put, tkA, tkB, tkC, tkD, tkE, tkF]
      refine tk 19 (.pointer (some ⟨g, 8, none⟩)) rfl (.inl ⟨by rfl, fun W hW => ?_⟩) hS9 ?_
      · obtain ⟨z0, z1, z2, z3, z4, z5, z6, z7, z8, z9⟩ := hW; go_simp
      simp only [Act.put, tkA, tkB, tkC, tkD, tkE, tkF]
      refine tk 20 (.int .i64 shift) rfl (.inl ⟨by rfl, fun W hW => ?_⟩) hS9 ?_
      · obtain ⟨z0, z1, z2, z3, z4, z5, z6, z7, z8, z9⟩ := hW; go_simp
      simp only [Act.put, tkA, tkB, tkC, tkD, tkE, tkF]
      refine wpAnyH_ready (rs := [11, 21]) (by kernel_rfl) (by simp) (AllReadyH.cons rfl (fun K hK => ?_) (AllReadyH.cons rfl (fun K hK => ?_) AllReadyH.nil))
      · go_simp
        have P1 := P0.alloc (.cells #[.int .i64 mn, .int .i64 mx, .int .i64 poll, .int .i64 cool] 3)
        have Q11 := Tide.At.made W0 3 #[.int .i64 mn, .int .i64 mx, .int .i64 poll, .int .i64 cool]
        refine hK.out _ _ (pnKeep P1) (fun hT1 => ?_)
        clear hK K P0
        generalize W0.alloc (.cells #[.int .i64 mn, .int .i64 mx, .int .i64 poll, .int .i64 cool] 3) = W1 at P1 hT1 Q11 ⊢
        generalize W0.heap.size = b11 at Q11 ⊢
        refine wpAnyH_ready (rs := [12, 21]) (by kernel_rfl) (by simp) (AllReadyH.cons rfl (fun K hK => ?_) (AllReadyH.cons rfl (fun K hK => ?_) AllReadyH.nil))
        · go_simp
          refine (line4 (w0 := w) (g := g) (cs := #[.string name, .int .i64 mn, .int .i64 mx, .int .i64 poll, .int .i64 cool, .int .i64 tol, .int .i64 back, .int .i64 after, .int .i64 shift, .int .i64 u0, .int .i64 u1, .int .i64 u2, .int .i64 u3, .int .i64 d0, .int .i64 d1, .int .i64 d2, .int .i64 d3, .slice A ts.length cap]) (A := A) (cap := cap) (ts := ts) p.row0 _ mn mx poll cool Q11 P1 HR0.out).mono ?_
          rintro e W2 ⟨rfl, hb, P2⟩
          go_wp2_with fail
          refine hK.out _ _ (pnKeep P2) (fun hT2 => ?_)
          clear hK K P1
          refine wpAnyH_ready (rs := [21]) (by kernel_rfl) (by simp) (AllReadyH.cons rfl (fun K hK => ?_) AllReadyH.nil)
          · go_simp
            have P3 := P2.alloc (.cells #[.int .i64 tol, .int .i64 back, .int .i64 after, .int .i64 shift] 3)
            have Q21 := Tide.At.made W2 3 #[.int .i64 tol, .int .i64 back, .int .i64 after, .int .i64 shift]
            refine hK.out _ _ (pnKeep P3) (fun hT3 => ?_)
            clear hK K P2
            generalize W2.alloc (.cells #[.int .i64 tol, .int .i64 back, .int .i64 after, .int .i64 shift] 3) = W3 at P3 hT3 Q21 ⊢
            generalize W2.heap.size = b21 at Q21 ⊢
            refine wpAnyH_ready (rs := [22]) (by kernel_rfl) (by simp) (AllReadyH.cons rfl (fun K hK => ?_) AllReadyH.nil)
            · go_simp
              refine (line4 (w0 := w) (g := g) (cs := #[.string name, .int .i64 mn, .int .i64 mx, .int .i64 poll, .int .i64 cool, .int .i64 tol, .int .i64 back, .int .i64 after, .int .i64 shift, .int .i64 u0, .int .i64 u1, .int .i64 u2, .int .i64 u3, .int .i64 d0, .int .i64 d1, .int .i64 d2, .int .i64 d3, .slice A ts.length cap]) (A := A) (cap := cap) (ts := ts) p.row1 _ tol back after shift Q21 P3 HR1.out).mono ?_
              rintro e W4 ⟨rfl, hb, P4⟩
              go_wp2_with fail
              refine hK.out _ _ (pnKeep P4) (fun hT4 => ?_)
              clear hK K P3
              refine tk 23 (.string (p.row0 ++ p.row1)) rfl (.inl ⟨by rfl, fun W hW => ?_⟩) hT4 ?_
              · obtain ⟨z0, z1, z2, z3, z4, z5, z6, z7, z8, z9⟩ := hW; go_simp
              simp only [Act.put, tkA, tkB, tkC, tkD, tkE, tkF]
              refine tk 24 (.string (p.row0 ++ p.row1)) rfl (.inl ⟨by rfl, fun W hW => ?_⟩) hT4 ?_
              · obtain ⟨z0, z1, z2, z3, z4, z5, z6, z7, z8, z9⟩ := hW; go_simp
              simp only [Act.put, tkA, tkB, tkC, tkD, tkE, tkF]
              refine wpAnyH_done (by kernel_rfl) ?_ _
              go_wp2_with fail
              go_meet
              exact ⟨rfl, Lib.hid P4⟩
        · go_simp
          have P2 := P1.alloc (.cells #[.int .i64 tol, .int .i64 back, .int .i64 after, .int .i64 shift] 3)
          have Q21 := Tide.At.made W1 3 #[.int .i64 tol, .int .i64 back, .int .i64 after, .int .i64 shift]
          have Q11 := Tide.At.alloc Q11 (.cells #[.int .i64 tol, .int .i64 back, .int .i64 after, .int .i64 shift] 3)
          refine hK.out _ _ (pnKeep P2) (fun hT2 => ?_)
          clear hK K P1
          generalize W1.alloc (.cells #[.int .i64 tol, .int .i64 back, .int .i64 after, .int .i64 shift] 3) = W2 at P2 hT2 Q21 Q11 ⊢
          generalize W1.heap.size = b21 at Q21 ⊢
          refine wpAnyH_ready (rs := [12]) (by kernel_rfl) (by simp) (AllReadyH.cons rfl (fun K hK => ?_) AllReadyH.nil)
          · go_simp
            refine (line4 (w0 := w) (g := g) (cs := #[.string name, .int .i64 mn, .int .i64 mx, .int .i64 poll, .int .i64 cool, .int .i64 tol, .int .i64 back, .int .i64 after, .int .i64 shift, .int .i64 u0, .int .i64 u1, .int .i64 u2, .int .i64 u3, .int .i64 d0, .int .i64 d1, .int .i64 d2, .int .i64 d3, .slice A ts.length cap]) (A := A) (cap := cap) (ts := ts) p.row0 _ mn mx poll cool Q11 P2 HR0.out).mono ?_
            rintro e W3 ⟨rfl, hb, P3⟩
            have Q21 := Tide.At.below Q21 hb Q21.inside
            go_wp2_with fail
            refine hK.out _ _ (pnKeep P3) (fun hT3 => ?_)
            clear hK K P2
            refine wpAnyH_ready (rs := [22]) (by kernel_rfl) (by simp) (AllReadyH.cons rfl (fun K hK => ?_) AllReadyH.nil)
            · go_simp
              refine (line4 (w0 := w) (g := g) (cs := #[.string name, .int .i64 mn, .int .i64 mx, .int .i64 poll, .int .i64 cool, .int .i64 tol, .int .i64 back, .int .i64 after, .int .i64 shift, .int .i64 u0, .int .i64 u1, .int .i64 u2, .int .i64 u3, .int .i64 d0, .int .i64 d1, .int .i64 d2, .int .i64 d3, .slice A ts.length cap]) (A := A) (cap := cap) (ts := ts) p.row1 _ tol back after shift Q21 P3 HR1.out).mono ?_
              rintro e W4 ⟨rfl, hb, P4⟩
              go_wp2_with fail
              refine hK.out _ _ (pnKeep P4) (fun hT4 => ?_)
              clear hK K P3
              refine tk 23 (.string (p.row0 ++ p.row1)) rfl (.inl ⟨by rfl, fun W hW => ?_⟩) hT4 ?_
              · obtain ⟨z0, z1, z2, z3, z4, z5, z6, z7, z8, z9⟩ := hW; go_simp
              simp only [Act.put, tkA, tkB, tkC, tkD, tkE, tkF]
              refine tk 24 (.string (p.row0 ++ p.row1)) rfl (.inl ⟨by rfl, fun W hW => ?_⟩) hT4 ?_
              · obtain ⟨z0, z1, z2, z3, z4, z5, z6, z7, z8, z9⟩ := hW; go_simp
              simp only [Act.put, tkA, tkB, tkC, tkD, tkE, tkF]
              refine wpAnyH_done (by kernel_rfl) ?_ _
              go_wp2_with fail
              go_meet
              exact ⟨rfl, Lib.hid P4⟩
      · go_simp
        have P1 := P0.alloc (.cells #[.int .i64 tol, .int .i64 back, .int .i64 after, .int .i64 shift] 3)
        have Q21 := Tide.At.made W0 3 #[.int .i64 tol, .int .i64 back, .int .i64 after, .int .i64 shift]
        refine hK.out _ _ (pnKeep P1) (fun hT1 => ?_)
        clear hK K P0
        generalize W0.alloc (.cells #[.int .i64 tol, .int .i64 back, .int .i64 after, .int .i64 shift] 3) = W1 at P1 hT1 Q21 ⊢
        generalize W0.heap.size = b21 at Q21 ⊢
        refine wpAnyH_ready (rs := [11]) (by kernel_rfl) (by simp) (AllReadyH.cons rfl (fun K hK => ?_) AllReadyH.nil)
        · go_simp
          have P2 := P1.alloc (.cells #[.int .i64 mn, .int .i64 mx, .int .i64 poll, .int .i64 cool] 3)
          have Q11 := Tide.At.made W1 3 #[.int .i64 mn, .int .i64 mx, .int .i64 poll, .int .i64 cool]
          have Q21 := Tide.At.alloc Q21 (.cells #[.int .i64 mn, .int .i64 mx, .int .i64 poll, .int .i64 cool] 3)
          refine hK.out _ _ (pnKeep P2) (fun hT2 => ?_)
          clear hK K P1
          generalize W1.alloc (.cells #[.int .i64 mn, .int .i64 mx, .int .i64 poll, .int .i64 cool] 3) = W2 at P2 hT2 Q11 Q21 ⊢
          generalize W1.heap.size = b11 at Q11 ⊢
          refine wpAnyH_ready (rs := [12]) (by kernel_rfl) (by simp) (AllReadyH.cons rfl (fun K hK => ?_) AllReadyH.nil)
          · go_simp
            refine (line4 (w0 := w) (g := g) (cs := #[.string name, .int .i64 mn, .int .i64 mx, .int .i64 poll, .int .i64 cool, .int .i64 tol, .int .i64 back, .int .i64 after, .int .i64 shift, .int .i64 u0, .int .i64 u1, .int .i64 u2, .int .i64 u3, .int .i64 d0, .int .i64 d1, .int .i64 d2, .int .i64 d3, .slice A ts.length cap]) (A := A) (cap := cap) (ts := ts) p.row0 _ mn mx poll cool Q11 P2 HR0.out).mono ?_
            rintro e W3 ⟨rfl, hb, P3⟩
            have Q21 := Tide.At.below Q21 hb Q21.inside
            go_wp2_with fail
            refine hK.out _ _ (pnKeep P3) (fun hT3 => ?_)
            clear hK K P2
            refine wpAnyH_ready (rs := [22]) (by kernel_rfl) (by simp) (AllReadyH.cons rfl (fun K hK => ?_) AllReadyH.nil)
            · go_simp
              refine (line4 (w0 := w) (g := g) (cs := #[.string name, .int .i64 mn, .int .i64 mx, .int .i64 poll, .int .i64 cool, .int .i64 tol, .int .i64 back, .int .i64 after, .int .i64 shift, .int .i64 u0, .int .i64 u1, .int .i64 u2, .int .i64 u3, .int .i64 d0, .int .i64 d1, .int .i64 d2, .int .i64 d3, .slice A ts.length cap]) (A := A) (cap := cap) (ts := ts) p.row1 _ tol back after shift Q21 P3 HR1.out).mono ?_
              rintro e W4 ⟨rfl, hb, P4⟩
              go_wp2_with fail
              refine hK.out _ _ (pnKeep P4) (fun hT4 => ?_)
              clear hK K P3
              refine tk 23 (.string (p.row0 ++ p.row1)) rfl (.inl ⟨by rfl, fun W hW => ?_⟩) hT4 ?_
              · obtain ⟨z0, z1, z2, z3, z4, z5, z6, z7, z8, z9⟩ := hW; go_simp
              simp only [Act.put, tkA, tkB, tkC, tkD, tkE, tkF]
              refine tk 24 (.string (p.row0 ++ p.row1)) rfl (.inl ⟨by rfl, fun W hW => ?_⟩) hT4 ?_
              · obtain ⟨z0, z1, z2, z3, z4, z5, z6, z7, z8, z9⟩ := hW; go_simp
              simp only [Act.put, tkA, tkB, tkC, tkD, tkE, tkF]
              refine wpAnyH_done (by kernel_rfl) ?_ _
              go_wp2_with fail
              go_meet
              exact ⟨rfl, Lib.hid P4⟩
    case rest =>
      as_aux_lemma =>
      obtain ⟨rfl, HSa⟩ := hcut
      clear HS1 HR0 HR1
      have x9 : wc.cell? ⟨g, 9, none⟩ = some (.int .i64 u0) := HSa.out.at_.here rfl
      have x10 : wc.cell? ⟨g, 10, none⟩ = some (.int .i64 u1) := HSa.out.at_.here rfl
      have x11 : wc.cell? ⟨g, 11, none⟩ = some (.int .i64 u2) := HSa.out.at_.here rfl
      have x12 : wc.cell? ⟨g, 12, none⟩ = some (.int .i64 u3) := HSa.out.at_.here rfl
      have x13 : wc.cell? ⟨g, 13, none⟩ = some (.int .i64 d0) := HSa.out.at_.here rfl
      have x14 : wc.cell? ⟨g, 14, none⟩ = some (.int .i64 d1) := HSa.out.at_.here rfl
      have x15 : wc.cell? ⟨g, 15, none⟩ = some (.int .i64 d2) := HSa.out.at_.here rfl
      have x16 : wc.cell? ⟨g, 16, none⟩ = some (.int .i64 d3) := HSa.out.at_.here rfl
      obtain ⟨j0, hj0, hz0, hz1⟩ := info_two row_info
      have hz2 : ¬ 2 * j0.size > 2 ^ 24 := by rw [hz1]; decide
      have hz3 : ¬ 2 * j0.size = 0 := by rw [hz1]; decide
      have hz4 : Instr.fill (fun i => some (i * j0.size, j0.size)) ((Array.range (2 * j0.size)).map ((Value.agg #[.string ⟨#[]⟩, .int .i64 0, .int .i64 0, .int .i64 0, .int .i64 0]).cells[· % (Value.agg #[.string ⟨#[]⟩, .int .i64 0, .int .i64 0, .int .i64 0, .int .i64 0]).cells.size]!)) [(0, .agg #[.string ⟨#[117, 112]⟩, .int .i64 u0, .int .i64 u1, .int .i64 u2, .int .i64 u3]), (1, .agg #[.string ⟨#[100, 111, 119, 110]⟩, .int .i64 d0, .int .i64 d1, .int .i64 d2, .int .i64 d3])] = some #[.string ⟨#[117, 112]⟩, .int .i64 u0, .int .i64 u1, .int .i64 u2, .int .i64 u3, .string ⟨#[100, 111, 119, 110]⟩, .int .i64 d0, .int .i64 d1, .int .i64 d2, .int .i64 d3] := by rw [hz1]; exact row_fill u0 u1 u2 u3 d0 d1 d2 d3
      have H0 := Lib.hid hj0; have H1 := Lib.hid hz0; have H2 := Lib.hid hz2; have H3 := Lib.hid hz3; have H4 := Lib.hid hz4
      clear hj0 hz0 hz1 hz2 hz3 hz4
      go_wp2_with (first | refine build_law rfl 57 _ rfl [(0, .string ⟨#[117, 112]⟩), (1, .agg #[.int .i64 u0, .int .i64 u1, .int .i64 u2, .int .i64 u3])] rfl _ (row_built _ _ _ _ _) ?_ | refine build_law rfl 57 _ rfl [(0, .string ⟨#[100, 111, 119, 110]⟩), (1, .agg #[.int .i64 d0, .int .i64 d1, .int .i64 d2, .int .i64 d3])] rfl _ (row_built _ _ _ _ _) ?_ | refine bslice_law rfl 58 57 2 _ rfl [(0, .agg #[.string ⟨#[117, 112]⟩, .int .i64 u0, .int .i64 u1, .int .i64 u2, .int .i64 u3]), (1, .agg #[.string ⟨#[100, 111, 119, 110]⟩, .int .i64 d0, .int .i64 d1, .int .i64 d2, .int .i64 d3])] rfl #[.string ⟨#[117, 112]⟩, .int .i64 u0, .int .i64 u1, .int .i64 u2, .int .i64 u3, .string ⟨#[100, 111, 119, 110]⟩, .int .i64 d0, .int .i64 d1, .int .i64 d2, .int .i64 d3] j0 _ Tryz.underlying58 H0.out H1.out H2.out H3.out H4.out ?_)
      have HA := Lib.hid (Tide.At.made wc 57 #[.string ⟨#[117, 112]⟩, .int .i64 u0, .int .i64 u1, .int .i64 u2, .int .i64 u3, .string ⟨#[100, 111, 119, 110]⟩, .int .i64 d0, .int .i64 d1, .int .i64 d2, .int .i64 d3])
      have HSb := Lib.hid (HSa.out.alloc (.cells #[.string ⟨#[117, 112]⟩, .int .i64 u0, .int .i64 u1, .int .i64 u2, .int .i64 u3, .string ⟨#[100, 111, 119, 110]⟩, .int .i64 d0, .int .i64 d1, .int .i64 d2, .int .i64 d3] 57))
      generalize wc.alloc (.cells #[.string ⟨#[117, 112]⟩, .int .i64 u0, .int .i64 u1, .int .i64 u2, .int .i64 u3, .string ⟨#[100, 111, 119, 110]⟩, .int .i64 d0, .int .i64 d1, .int .i64 d2, .int .i64 d3] 57) = W5 at HA HSb ⊢
      generalize wc.heap.size = b5 at HA ⊢
      clear HSa x9 x10 x11 x12 x13 x14 x15 x16
      have HPs := Lib.hid (Pln.pcs_size HFi.out)
      have hp0 : p.row0 ++ p.row1 = p.pcs 0 := rfl
      rw [hp0]
      clear hp0
      go_loopw [5, 51] (fun x y wr => ∃ k : Nat, k ≤ 2 ∧ x = .string (p.pcs k) ∧ y = .int .i64 k ∧ Hid (PnS w wr g #[.string name, .int .i64 mn, .int .i64 mx, .int .i64 poll, .int .i64 cool, .int .i64 tol, .int .i64 back, .int .i64 after, .int .i64 shift, .int .i64 u0, .int .i64 u1, .int .i64 u2, .int .i64 u3, .int .i64 d0, .int .i64 d1, .int .i64 d2, .int .i64 d3, .slice A ts.length cap] A cap ts) ∧ Hid (Tide.At wr b5 57 #[.string ⟨#[117, 112]⟩, .int .i64 u0, .int .i64 u1, .int .i64 u2, .int .i64 u3, .string ⟨#[100, 111, 119, 110]⟩, .int .i64 d0, .int .i64 d1, .int .i64 d2, .int .i64 d3])) (fun _ y _ => 2 - (intOf y).toNat)
      case atStart => exact ⟨0, by omega, rfl, rfl, HSb, HA⟩
      case round =>
        clear HSb HA
        obtain ⟨k, hk, rfl, rfl, HS, HA⟩ := hrel
        by_cases k0 : k = 0
        · as_aux_lemma =>
          subst k0
          have a0 : wr.cell? ⟨b5, 0, none⟩ = some (.string ⟨#[117, 112]⟩) := HA.out.here rfl
          have a1 : wr.cell? ⟨b5, 1, none⟩ = some (.int .i64 u0) := HA.out.here rfl
          have a2 : wr.cell? ⟨b5, 2, none⟩ = some (.int .i64 u1) := HA.out.here rfl
          have a3 : wr.cell? ⟨b5, 3, none⟩ = some (.int .i64 u2) := HA.out.here rfl
          have a4 : wr.cell? ⟨b5, 4, none⟩ = some (.int .i64 u3) := HA.out.here rfl
          go_upto_region 8 with fail
          have HS6 := Lib.hid (HS.out.alloc (.cells #[.string ⟨#[117, 112]⟩, .int .i64 u0, .int .i64 u1, .int .i64 u2, .int .i64 u3] 57))
          have HA6 := Lib.hid (HA.out.alloc (.cells #[.string ⟨#[117, 112]⟩, .int .i64 u0, .int .i64 u1, .int .i64 u2, .int .i64 u3] 57))
          have HX6 := Lib.hid (Tide.At.made wr 57 #[.string ⟨#[117, 112]⟩, .int .i64 u0, .int .i64 u1, .int .i64 u2, .int .i64 u3])
          generalize wr.alloc (.cells #[.string ⟨#[117, 112]⟩, .int .i64 u0, .int .i64 u1, .int .i64 u2, .int .i64 u3] 57) = W6 at HS6 HA6 HX6 ⊢
          generalize wr.heap.size = b6 at HX6 ⊢
          clear a0 a1 a2 a3 a4 HS HA
          have a0 : W6.cell? ⟨b6, 0, none⟩ = some (.string ⟨#[117, 112]⟩) := HX6.out.here rfl
          have a1 : W6.cell? ⟨b6, 1, none⟩ = some (.int .i64 u0) := HX6.out.here rfl
          have a2 : W6.cell? ⟨b6, 2, none⟩ = some (.int .i64 u1) := HX6.out.here rfl
          have a3 : W6.cell? ⟨b6, 3, none⟩ = some (.int .i64 u2) := HX6.out.here rfl
          have a4 : W6.cell? ⟨b6, 4, none⟩ = some (.int .i64 u3) := HX6.out.here rfl
          have hz : (p.row0 ++ p.row1).size + p.row2.size ≤ 9223372036854775807 := by have := HPs.out; have := Pln.row2_size HFi.out; have := Pln.row3_size HFi.out; omega
          have HP1 := Lib.hid (show (p.row0 ++ p.row1) ++ p.row2 = p.pcs 1 from rfl)
          rw [show p.pcs 0 = (p.row0 ++ p.row1) from rfl]
          go_wp2_with fail
          refine (line4 (w0 := w) (g := g) (cs := #[.string name, .int .i64 mn, .int .i64 mx, .int .i64 poll, .int .i64 cool, .int .i64 tol, .int .i64 back, .int .i64 after, .int .i64 shift, .int .i64 u0, .int .i64 u1, .int .i64 u2, .int .i64 u3, .int .i64 d0, .int .i64 d1, .int .i64 d2, .int .i64 d3, .slice A ts.length cap]) (A := A) (cap := cap) (ts := ts) p.row2 _ u0 u1 u2 u3 (at_made' _ _ _ _ (by simp)) (HS6.out.alloc _) HR2.out).mono ?_
          rintro e w7 ⟨rfl, hb7, hS7⟩
          have HS7 := Lib.hid hS7
          have HA7 := Lib.hid ((HA6.out.alloc _).below hb7 (HA6.out.alloc _).inside)
          clear hb7 hS7 HS6 HA6 HX6 a0 a1 a2 a3 a4
          go_wp2_with fail
          go_round
          case rel => exact ⟨1, by omega, by rw [← HP1.out], by go_num, HS7, HA7⟩
          case measure => simp [intOf]
        by_cases k1 : k = 1
        · as_aux_lemma =>
          subst k1
          clear k0
          have a0 : wr.cell? ⟨b5, 5, none⟩ = some (.string ⟨#[100, 111, 119, 110]⟩) := HA.out.here rfl
          have a1 : wr.cell? ⟨b5, 6, none⟩ = some (.int .i64 d0) := HA.out.here rfl
          have a2 : wr.cell? ⟨b5, 7, none⟩ = some (.int .i64 d1) := HA.out.here rfl
          have a3 : wr.cell? ⟨b5, 8, none⟩ = some (.int .i64 d2) := HA.out.here rfl
          have a4 : wr.cell? ⟨b5, 9, none⟩ = some (.int .i64 d3) := HA.out.here rfl
          go_upto_region 8 with fail
          have HS6 := Lib.hid (HS.out.alloc (.cells #[.string ⟨#[100, 111, 119, 110]⟩, .int .i64 d0, .int .i64 d1, .int .i64 d2, .int .i64 d3] 57))
          have HA6 := Lib.hid (HA.out.alloc (.cells #[.string ⟨#[100, 111, 119, 110]⟩, .int .i64 d0, .int .i64 d1, .int .i64 d2, .int .i64 d3] 57))
          have HX6 := Lib.hid (Tide.At.made wr 57 #[.string ⟨#[100, 111, 119, 110]⟩, .int .i64 d0, .int .i64 d1, .int .i64 d2, .int .i64 d3])
          generalize wr.alloc (.cells #[.string ⟨#[100, 111, 119, 110]⟩, .int .i64 d0, .int .i64 d1, .int .i64 d2, .int .i64 d3] 57) = W6 at HS6 HA6 HX6 ⊢
          generalize wr.heap.size = b6 at HX6 ⊢
          clear a0 a1 a2 a3 a4 HS HA
          have a0 : W6.cell? ⟨b6, 0, none⟩ = some (.string ⟨#[100, 111, 119, 110]⟩) := HX6.out.here rfl
          have a1 : W6.cell? ⟨b6, 1, none⟩ = some (.int .i64 d0) := HX6.out.here rfl
          have a2 : W6.cell? ⟨b6, 2, none⟩ = some (.int .i64 d1) := HX6.out.here rfl
          have a3 : W6.cell? ⟨b6, 3, none⟩ = some (.int .i64 d2) := HX6.out.here rfl
          have a4 : W6.cell? ⟨b6, 4, none⟩ = some (.int .i64 d3) := HX6.out.here rfl
          have hz : ((p.row0 ++ p.row1) ++ p.row2).size + p.row3.size ≤ 9223372036854775807 := by have := HPs.out; have := Pln.row2_size HFi.out; have := Pln.row3_size HFi.out; omega
          have HP1 := Lib.hid (show ((p.row0 ++ p.row1) ++ p.row2) ++ p.row3 = p.pcs 2 from rfl)
          rw [show p.pcs 1 = ((p.row0 ++ p.row1) ++ p.row2) from rfl]
          go_wp2_with fail
          refine (line4 (w0 := w) (g := g) (cs := #[.string name, .int .i64 mn, .int .i64 mx, .int .i64 poll, .int .i64 cool, .int .i64 tol, .int .i64 back, .int .i64 after, .int .i64 shift, .int .i64 u0, .int .i64 u1, .int .i64 u2, .int .i64 u3, .int .i64 d0, .int .i64 d1, .int .i64 d2, .int .i64 d3, .slice A ts.length cap]) (A := A) (cap := cap) (ts := ts) p.row3 _ d0 d1 d2 d3 (at_made' _ _ _ _ (by simp)) (HS6.out.alloc _) HR3.out).mono ?_
          rintro e w7 ⟨rfl, hb7, hS7⟩
          have HS7 := Lib.hid hS7
          have HA7 := Lib.hid ((HA6.out.alloc _).below hb7 (HA6.out.alloc _).inside)
          clear hb7 hS7 HS6 HA6 HX6 a0 a1 a2 a3 a4
          go_wp2_with fail
          go_round
          case rel => exact ⟨2, by omega, by rw [← HP1.out], by go_num, HS7, HA7⟩
          case measure => simp [intOf]
        obtain rfl : k = 2 := by omega
        clear k0 k1 hk HR2 HR3 HA
        as_aux_lemma =>
        rw [show p.pcs 2 = p.up2 0 from rfl]
        have x17 : wr.cell? ⟨g, 17, none⟩ = some (.slice A ts.length cap) := HS.out.at_.here rfl
        go_wp2_with fail
        clear x17
        go_loopw [5, 77] (fun x y wr => ∃ k : Nat, k ≤ ts.length ∧ x = .string (p.up2 k) ∧ y = .int .i64 k ∧ Hid (PnS w wr g #[.string name, .int .i64 mn, .int .i64 mx, .int .i64 poll, .int .i64 cool, .int .i64 tol, .int .i64 back, .int .i64 after, .int .i64 shift, .int .i64 u0, .int .i64 u1, .int .i64 u2, .int .i64 u3, .int .i64 d0, .int .i64 d1, .int .i64 d2, .int .i64 d3, .slice A ts.length cap] A cap ts)) (fun _ y _ => ts.length - (intOf y).toNat)
        case atStart => exact ⟨0, by omega, rfl, rfl, HS⟩
        case round =>
          clear HS
          obtain ⟨k, hk, rfl, rfl, HS⟩ := hrel
          have i0 : (0 : Int) ≤ (k : Int) := by omega
          by_cases hlt : k < ts.length
          · as_aux_lemma =>
            obtain ⟨t, htk⟩ := Tide.get_some ts hlt
            obtain ⟨A', cap', e, hc⟩ := HS.out.row
            cases e
            obtain ⟨b, off, rfl, hbl, hcl⟩ := hc (by omega)
            have HFk := Lib.hid (HF.out t (List.mem_of_getElem? htk))
            have HEk := Lib.hid (trigE_cases (HFi.out.each t (by rw [HTs.out]; exact List.mem_of_getElem? htk)))
            have HNx := Lib.hid (Pln.up2_next (p := p) (k := k) (t := t) (by rw [HTs.out]; exact htk))
            have HUp := Lib.hid (Pln.up2_size HFi.out k)
            have HTz := Lib.hid (Trg.text_size (HFi.out.each t (by rw [HTs.out]; exact List.mem_of_getElem? htk)))
            obtain ⟨kind, target, act, ⟨ai, ah, ad, am, aw, aa, ab⟩, ⟨bi, bh, bd, bm, bw, ba, bb⟩⟩ := t
            have c0 : wr.cell? ⟨b, off + k * 17, none⟩ = some (.int .i64 kind) := hcl k _ 0 _ htk rfl; have c1 : wr.cell? ⟨b, off + k * 17 + 1, none⟩ = some (.int .i64 target) := hcl k _ 1 _ htk rfl; have c2 : wr.cell? ⟨b, off + k * 17 + 2, none⟩ = some (.int .i64 act) := hcl k _ 2 _ htk rfl; have c3 : wr.cell? ⟨b, off + k * 17 + 3, none⟩ = some (.int .u64 (ai : Int)) := hcl k _ 3 _ htk rfl; have c4 : wr.cell? ⟨b, off + k * 17 + 4, none⟩ = some (.int .u64 (ah : Int)) := hcl k _ 4 _ htk rfl; have c5 : wr.cell? ⟨b, off + k * 17 + 5, none⟩ = some (.int .u64 (ad : Int)) := hcl k _ 5 _ htk rfl; have c6 : wr.cell? ⟨b, off + k * 17 + 6, none⟩ = some (.int .u64 (am : Int)) := hcl k _ 6 _ htk rfl; have c7 : wr.cell? ⟨b, off + k * 17 + 7, none⟩ = some (.int .u64 (aw : Int)) := hcl k _ 7 _ htk rfl; have c8 : wr.cell? ⟨b, off + k * 17 + 8, none⟩ = some (.bool aa) := hcl k _ 8 _ htk rfl; have c9 : wr.cell? ⟨b, off + k * 17 + 9, none⟩ = some (.bool ab) := hcl k _ 9 _ htk rfl; have c10 : wr.cell? ⟨b, off + k * 17 + 10, none⟩ = some (.int .u64 (bi : Int)) := hcl k _ 10 _ htk rfl; have c11 : wr.cell? ⟨b, off + k * 17 + 11, none⟩ = some (.int .u64 (bh : Int)) := hcl k _ 11 _ htk rfl; have c12 : wr.cell? ⟨b, off + k * 17 + 12, none⟩ = some (.int .u64 (bd : Int)) := hcl k _ 12 _ htk rfl; have c13 : wr.cell? ⟨b, off + k * 17 + 13, none⟩ = some (.int .u64 (bm : Int)) := hcl k _ 13 _ htk rfl; have c14 : wr.cell? ⟨b, off + k * 17 + 14, none⟩ = some (.int .u64 (bw : Int)) := hcl k _ 14 _ htk rfl; have c15 : wr.cell? ⟨b, off + k * 17 + 15, none⟩ = some (.bool ba) := hcl k _ 15 _ htk rfl; have c16 : wr.cell? ⟨b, off + k * 17 + 16, none⟩ = some (.bool bb) := hcl k _ 16 _ htk rfl
            have i1 : (k : Int) < (ts.length : Int) := by omega
            have HK := Lib.hid hlt
            clear hc hcl htk hk hlt
            go_upto_region 13 with fail
            have HS2 := Lib.hid (HS.out.alloc (.cells #[.int .i64 kind, .int .i64 target, .int .i64 act, .int .u64 (ai : Int), .int .u64 (ah : Int), .int .u64 (ad : Int), .int .u64 (am : Int), .int .u64 (aw : Int), .bool aa, .bool ab, .int .u64 (bi : Int), .int .u64 (bh : Int), .int .u64 (bd : Int), .int .u64 (bm : Int), .int .u64 (bw : Int), .bool ba, .bool bb] 65))
            have HT := Lib.hid (Tide.At.made wr 65 #[.int .i64 kind, .int .i64 target, .int .i64 act, .int .u64 (ai : Int), .int .u64 (ah : Int), .int .u64 (ad : Int), .int .u64 (am : Int), .int .u64 (aw : Int), .bool aa, .bool ab, .int .u64 (bi : Int), .int .u64 (bh : Int), .int .u64 (bd : Int), .int .u64 (bm : Int), .int .u64 (bw : Int), .bool ba, .bool bb])
            generalize wr.alloc (.cells #[.int .i64 kind, .int .i64 target, .int .i64 act, .int .u64 (ai : Int), .int .u64 (ah : Int), .int .u64 (ad : Int), .int .u64 (am : Int), .int .u64 (aw : Int), .bool aa, .bool ab, .int .u64 (bi : Int), .int .u64 (bh : Int), .int .u64 (bd : Int), .int .u64 (bm : Int), .int .u64 (bw : Int), .bool ba, .bool bb] 65) = W2 at HT HS2 ⊢
            generalize wr.heap.size = g2 at HT ⊢
            clear c0 c1 c2 c3 c4 c5 c6 c7 c8 c9 c10 c11 c12 c13 c14 c15 c16 HS
            have HRel := HNx.out
            obtain ⟨Y, HY⟩ : ∃ Y, Hid (p.up2 k = Y) := ⟨_, Lib.hid rfl⟩
            rw [HY.out] at HRel HUp ⊢
            have HNy := Lib.hid HRel
            clear HRel HNx
            by_cases k3 : kind = 3
            · as_aux_lemma =>
              subst k3
              have HE3 := Lib.hid (show IntW target ∧ Cr.err ⟨ai, ah, ad, am, aw, aa, ab⟩ = 0 ∧ Cr.err ⟨bi, bh, bd, bm, bw, ba, bb⟩ = 0 by rcases HEk.out with ⟨h, _⟩ | ⟨_, h⟩; (have h' : ((3 : Int) = 1 ∨ (3 : Int) = 2) := h; omega); exact h)
              obtain ⟨ta, HTa⟩ : ∃ ta, Hid (Cr.text ⟨ai, ah, ad, am, aw, aa, ab⟩ = ta) := ⟨_, Lib.hid rfl⟩
              obtain ⟨tb, HTb⟩ : ∃ tb, Hid (Cr.text ⟨bi, bh, bd, bm, bw, ba, bb⟩ = tb) := ⟨_, Lib.hid rfl⟩
              have HTx := Lib.hid (show Trg.text ⟨3, target, act, ⟨ai, ah, ad, am, aw, aa, ab⟩, ⟨bi, bh, bd, bm, bw, ba, bb⟩⟩ = spanTxt target ta tb by rw [← HTa.out, ← HTb.out]; rfl)
              have HNz := Lib.hid (HNy.out.trans (congrArg (Y ++ ·) HTx.out))
              have c0 : W2.cell? ⟨g2, 0, none⟩ = some (.int .i64 3) := HT.out.here rfl
              have c3 : W2.cell? ⟨g2, 3, none⟩ = some (.int .u64 (ai : Int)) := HT.out.here rfl
              have c4 : W2.cell? ⟨g2, 4, none⟩ = some (.int .u64 (ah : Int)) := HT.out.here rfl
              have c5 : W2.cell? ⟨g2, 5, none⟩ = some (.int .u64 (ad : Int)) := HT.out.here rfl
              have c6 : W2.cell? ⟨g2, 6, none⟩ = some (.int .u64 (am : Int)) := HT.out.here rfl
              have c7 : W2.cell? ⟨g2, 7, none⟩ = some (.int .u64 (aw : Int)) := HT.out.here rfl
              have c8 : W2.cell? ⟨g2, 8, none⟩ = some (.bool aa) := HT.out.here rfl
              have c9 : W2.cell? ⟨g2, 9, none⟩ = some (.bool ab) := HT.out.here rfl
              go_wp2_with fail
              refine (sayPrint ⟨ai, ah, ad, am, aw, aa, ab⟩ HFk.out.1 ta HE3.out.2.1 HTa.out _).mono ?_
              rintro e w3 ⟨rfl, hb3⟩
              have HS3 := Lib.hid (HS2.out.next hb3)
              have HT3 := Lib.hid (HT.out.below hb3 HT.out.inside)
              clear hb3 HS2 HT c0 c3 c4 c5 c6 c7 c8 c9
              have c10 : w3.cell? ⟨g2, 10, none⟩ = some (.int .u64 (bi : Int)) := HT3.out.here rfl
              have c11 : w3.cell? ⟨g2, 11, none⟩ = some (.int .u64 (bh : Int)) := HT3.out.here rfl
              have c12 : w3.cell? ⟨g2, 12, none⟩ = some (.int .u64 (bd : Int)) := HT3.out.here rfl
              have c13 : w3.cell? ⟨g2, 13, none⟩ = some (.int .u64 (bm : Int)) := HT3.out.here rfl
              have c14 : w3.cell? ⟨g2, 14, none⟩ = some (.int .u64 (bw : Int)) := HT3.out.here rfl
              have c15 : w3.cell? ⟨g2, 15, none⟩ = some (.bool ba) := HT3.out.here rfl
              have c16 : w3.cell? ⟨g2, 16, none⟩ = some (.bool bb) := HT3.out.here rfl
              go_wp2_with fail
              refine (sayPrint ⟨bi, bh, bd, bm, bw, ba, bb⟩ HFk.out.2 tb HE3.out.2.2 HTb.out _).mono ?_
              rintro e w4 ⟨rfl, hb4⟩
              have HS4 := Lib.hid (HS3.out.next hb4)
              have HT4 := Lib.hid (HT3.out.below hb4 HT3.out.inside)
              clear hb4 HS3 HT3 c10 c11 c12 c13 c14 c15 c16
              have c1 : w4.cell? ⟨g2, 1, none⟩ = some (.int .i64 target) := HT4.out.here rfl
              go_wp2_with fail
              refine (sayItoa target HE3.out.1 HS4.out).mono ?_
              rintro e w5 ⟨rfl, hb5, hS5⟩
              have HS5 := Lib.hid hS5
              clear hb5 hS5 HS4 HT4 c1
              have sa : ta.size ≤ 2005 := by rw [← HTa.out]; exact Cr.text_size _
              have sb : tb.size ≤ 2005 := by rw [← HTb.out]; exact Cr.text_size _
              have si := Tide.itoB_size HE3.out.1
              have sy := HUp.out
              have e1 : (⟨#[115, 112, 97, 110, 32]⟩ : ByteArray).size = 5 := rfl
              have e2 : (⟨#[32]⟩ : ByteArray).size = 1 := rfl
              have e3 : (⟨#[32, 47, 32]⟩ : ByteArray).size = 3 := rfl
              have e4 : (⟨#[10]⟩ : ByteArray).size = 1 := rfl
              have m0 : ((⟨#[115, 112, 97, 110, 32]⟩ : ByteArray)).size + (Tide.itoB target).size ≤ 9223372036854775807 := by (try simp only [ByteArray.size_append]); omega
              have m1 : (((⟨#[115, 112, 97, 110, 32]⟩ : ByteArray) ++ Tide.itoB target)).size + ((⟨#[32]⟩ : ByteArray)).size ≤ 9223372036854775807 := by (try simp only [ByteArray.size_append]); omega
              have m2 : ((((⟨#[115, 112, 97, 110, 32]⟩ : ByteArray) ++ Tide.itoB target) ++ (⟨#[32]⟩ : ByteArray))).size + (ta).size ≤ 9223372036854775807 := by (try simp only [ByteArray.size_append]); omega
              have m3 : (((((⟨#[115, 112, 97, 110, 32]⟩ : ByteArray) ++ Tide.itoB target) ++ (⟨#[32]⟩ : ByteArray)) ++ ta)).size + ((⟨#[32, 47, 32]⟩ : ByteArray)).size ≤ 9223372036854775807 := by (try simp only [ByteArray.size_append]); omega
              have m4 : ((((((⟨#[115, 112, 97, 110, 32]⟩ : ByteArray) ++ Tide.itoB target) ++ (⟨#[32]⟩ : ByteArray)) ++ ta) ++ (⟨#[32, 47, 32]⟩ : ByteArray))).size + (tb).size ≤ 9223372036854775807 := by (try simp only [ByteArray.size_append]); omega
              have m5 : (((((((⟨#[115, 112, 97, 110, 32]⟩ : ByteArray) ++ Tide.itoB target) ++ (⟨#[32]⟩ : ByteArray)) ++ ta) ++ (⟨#[32, 47, 32]⟩ : ByteArray)) ++ tb)).size + ((⟨#[10]⟩ : ByteArray)).size ≤ 9223372036854775807 := by (try simp only [ByteArray.size_append]); omega
              have m6 : Y.size + (((((((⟨#[115, 112, 97, 110, 32]⟩ : ByteArray) ++ Tide.itoB target) ++ (⟨#[32]⟩ : ByteArray)) ++ ta) ++ (⟨#[32, 47, 32]⟩ : ByteArray)) ++ tb) ++ (⟨#[10]⟩ : ByteArray)).size ≤ 9223372036854775807 := by (try simp only [ByteArray.size_append]); omega
              have HSp := Lib.hid (show (((((((⟨#[115, 112, 97, 110, 32]⟩ : ByteArray) ++ Tide.itoB target) ++ (⟨#[32]⟩ : ByteArray)) ++ ta) ++ (⟨#[32, 47, 32]⟩ : ByteArray)) ++ tb) ++ (⟨#[10]⟩ : ByteArray)) = spanTxt target ta tb from rfl)
              clear sa sb si sy e1 e2 e3 e4
              go_wp2_with fail
              refine ⟨?_, ?_⟩
              · (repeat apply Exists.intro)
                refine ⟨?_, rfl⟩
                exact ⟨k + 1, by have := HK.out; omega, by rw [HNz.out, ← HSp.out], by go_num, HS5⟩
              · have := HK.out; simp [intOf]; omega
            · have HE3 := Lib.hid (show (kind = 1 ∨ kind = 2) ∧ IntW target ∧ IntW act by rcases HEk.out with h | ⟨h, _⟩; exact h; exact absurd h k3)
              clear k3
              rcases HE3.out.1 with hk | hk
              · as_aux_lemma =>
                subst hk
                obtain ⟨tx, HTx⟩ : ∃ tx, Hid (Trg.text ⟨1, target, act, ⟨ai, ah, ad, am, aw, aa, ab⟩, ⟨bi, bh, bd, bm, bw, ba, bb⟩⟩ = tx) := ⟨_, Lib.hid rfl⟩
                have HDu := Lib.hid (show DuoF tx ⟨#[108, 97, 103]⟩ target act from ⟨two_in HE3.out.2.1 HE3.out.2.2, by decide, by rw [← HTx.out]; rfl⟩)
                have HSz := Lib.hid (show tx.size ≤ 4050 by rw [← HTx.out]; exact HTz.out)
                have HNz := Lib.hid (HNy.out.trans (congrArg (Y ++ ·) HTx.out))
                have c0 : W2.cell? ⟨g2, 0, none⟩ = some (.int .i64 1) := HT.out.here rfl
                have c1 : W2.cell? ⟨g2, 1, none⟩ = some (.int .i64 target) := HT.out.here rfl
                have c2 : W2.cell? ⟨g2, 2, none⟩ = some (.int .i64 act) := HT.out.here rfl
                go_wp2_with fail
                refine (line2 (w0 := w) (g := g) (cs := #[.string name, .int .i64 mn, .int .i64 mx, .int .i64 poll, .int .i64 cool, .int .i64 tol, .int .i64 back, .int .i64 after, .int .i64 shift, .int .i64 u0, .int .i64 u1, .int .i64 u2, .int .i64 u3, .int .i64 d0, .int .i64 d1, .int .i64 d2, .int .i64 d3, .slice (some ⟨b, off, none⟩) ts.length cap]) (A := some ⟨b, off, none⟩) (cap := cap) (ts := ts) tx _ target act (at_made' _ _ _ _ (by simp)) (HS2.out.alloc _) HDu.out).mono ?_
                rintro e w3 ⟨rfl, hb3, hS3⟩
                have HS3 := Lib.hid hS3
                clear hb3 hS3 HS2 HT c0 c1 c2
                have n0 : Y.size + tx.size ≤ 9223372036854775807 := by have := HUp.out; have := HSz.out; omega
                go_wp2_with fail
                refine ⟨?_, ?_⟩
                · (repeat apply Exists.intro)
                  refine ⟨?_, rfl⟩
                  exact ⟨k + 1, by have := HK.out; omega, by rw [HNz.out], by go_num, HS3⟩
                · have := HK.out; simp [intOf]; omega
              · as_aux_lemma =>
                subst hk
                obtain ⟨tx, HTx⟩ : ∃ tx, Hid (Trg.text ⟨2, target, act, ⟨ai, ah, ad, am, aw, aa, ab⟩, ⟨bi, bh, bd, bm, bw, ba, bb⟩⟩ = tx) := ⟨_, Lib.hid rfl⟩
                have HDu := Lib.hid (show DuoF tx ⟨#[100, 101, 112, 116, 104]⟩ target act from ⟨two_in HE3.out.2.1 HE3.out.2.2, by decide, by rw [← HTx.out]; rfl⟩)
                have HSz := Lib.hid (show tx.size ≤ 4050 by rw [← HTx.out]; exact HTz.out)
                have HNz := Lib.hid (HNy.out.trans (congrArg (Y ++ ·) HTx.out))
                have c0 : W2.cell? ⟨g2, 0, none⟩ = some (.int .i64 2) := HT.out.here rfl
                have c1 : W2.cell? ⟨g2, 1, none⟩ = some (.int .i64 target) := HT.out.here rfl
                have c2 : W2.cell? ⟨g2, 2, none⟩ = some (.int .i64 act) := HT.out.here rfl
                go_wp2_with fail
                refine (line2 (w0 := w) (g := g) (cs := #[.string name, .int .i64 mn, .int .i64 mx, .int .i64 poll, .int .i64 cool, .int .i64 tol, .int .i64 back, .int .i64 after, .int .i64 shift, .int .i64 u0, .int .i64 u1, .int .i64 u2, .int .i64 u3, .int .i64 d0, .int .i64 d1, .int .i64 d2, .int .i64 d3, .slice (some ⟨b, off, none⟩) ts.length cap]) (A := some ⟨b, off, none⟩) (cap := cap) (ts := ts) tx _ target act (at_made' _ _ _ _ (by simp)) (HS2.out.alloc _) HDu.out).mono ?_
                rintro e w3 ⟨rfl, hb3, hS3⟩
                have HS3 := Lib.hid hS3
                clear hb3 hS3 HS2 HT c0 c1 c2
                have n0 : Y.size + tx.size ≤ 9223372036854775807 := by have := HUp.out; have := HSz.out; omega
                go_wp2_with fail
                refine ⟨?_, ?_⟩
                · (repeat apply Exists.intro)
                  refine ⟨?_, rfl⟩
                  exact ⟨k + 1, by have := HK.out; omega, by rw [HNz.out], by go_num, HS3⟩
                · have := HK.out; simp [intOf]; omega
          · obtain rfl : k = ts.length := by omega
            have HAll := Lib.hid (show p.up2 ts.length = p.text by rw [← HTs.out]; exact Pln.up2_all)
            have HBe := Lib.hid (HQ.out wr HS.out.below)
            clear hk hlt
            rw [HAll.out]
            go_wp2_with fail
            go_ret2
            rw [hp.out]; exact HBe.out
  · have hN : (R == 0) = false := by simpa using he
    have hN2 : (R != 0) = true := by simpa using he
    have HQ := Lib.hid (show PrnPost p w (.returned (.tuple #[.string ⟨#[]⟩, .int .i64 R])) w1 from ⟨by rw [if_neg (by rw [HR.out]; exact he), HR.out], HS1.out.below⟩)
    rw [HR.out]
    clear he
    go_wp2_with fail
    go_ret2
    rw [hp.out]; exact HQ.out
end Go.Proofs.YtidonhndeohdlaaGreatDoor
