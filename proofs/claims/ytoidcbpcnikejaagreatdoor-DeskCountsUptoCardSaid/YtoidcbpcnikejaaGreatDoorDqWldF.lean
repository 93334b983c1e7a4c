/- A world: New. -/
import Derived.Test.YtoidcbpcnikejaaGreatDoorDqWldE
set_option linter.unusedVariables false
set_option linter.unusedSimpArgs false
set_option maxRecDepth 100000
set_option maxHeartbeats 12800000
namespace Go.Proofs.YtoidcbpcnikejaaGreatDoor
open Go.RowKit
theorem below_none {S : Nat → Prop} {w w' : World} (h : Below w.heap.size w w') : G.Chg (fun _ => False) w w' := G.Chg.of_below h (Nat.le_refl _)
open Classical in
theorem wo_made {w W0 w1 w2 w3 w4 w5 wf : World} {p : Pln} {parts : Nat} {most sec : Int} {gl gs gt gp gq gf gb : Nat} {lt lf vt vf vq : Value} {S1 S2 : Nat → Prop}
  (b0 : Below w.heap.size w W0) (b1 : Below W0.heap.size W0 w1) (b2 : Below w1.heap.size w1 w2) (b3 : Below w2.heap.size w2 w3) (b4 : Below w3.heap.size w3 w4) (b5 : Below w4.heap.size w4 w5) (bf : Below w5.heap.size w5 wf)
  (hl : LopAt 219 257 290 S1 S2 w1 gl gs lt lf (.slice none 0 0) (.slice none 0 0) (newLp p)) (s1 : ∀ b, S1 b → W0.heap.size ≤ b) (s2 : ∀ b, S2 b → W0.heap.size ≤ b)
  (ht : TopicAt w2 gt gp (List.replicate parts (0, 0))) (t1 : w1.heap.size ≤ gt) (t2 : w1.heap.size ≤ gp)
  (hq : QAt 225 (G.Plus (fun _ => False) w2 w3) w3 gq vq [] 0) (hfl : FAt 227 (G.Plus (fun _ => False) w3 w4) w4 gf (.slice none 0 0) [] 0 (mostOf most)) (hb : BAt 229 (G.Plus (fun _ => False) w4 w5) w5 gb (.slice none 0 0) [])
  (hh : G.At wf w5.heap.size 164 #[.pointer (some ⟨gl, 0, none⟩), .pointer (some ⟨gt, 0, none⟩), .pointer (some ⟨gq, 0, none⟩), .pointer (some ⟨gf, 0, none⟩), .pointer (some ⟨gb, 0, none⟩), vt, vf, .int .i64 sec, .int .i64 0, .int .i64 0])
  (htr : G.OwnRow (fun b => w5.heap.size ≤ b) wf 171 17 vt p.trigs.length (p.trigs.flatMap Trg.enc)) (hfa : G.OwnRow (fun b => w5.heap.size ≤ b) wf 4 1 vf p.trigs.length ((List.replicate p.trigs.length false).map Value.bool)) :
  WoN (fun b => b < w.heap.size) wf ⟨w5.heap.size, gl, gt, gq, gf, gb, vt, vf⟩ (newWo p parts most sec) ∧ Below w.heap.size w wf := by
 have z0 := b0.size; have z1 := b1.size; have z2 := b2.size; have z3 := b3.size; have z4 := b4.size; have z5 := b5.size; have zf := bf.size
 have k5 : Below w5.heap.size w5 wf := bf
 have k4 : Below w4.heap.size w4 wf := b5.trans (k5.mono z5)
 have k3 : Below w3.heap.size w3 wf := b4.trans (k4.mono z4)
 have k2 : Below w2.heap.size w2 wf := b3.trans (k3.mono z3)
 have k1 : Below w1.heap.size w1 wf := b2.trans (k2.mono z2)
 have k0 : Below W0.heap.size W0 wf := b1.trans (k1.mono z1)
 refine ⟨⟨⟨gs, gp, lt, lf, .slice none 0 0, .slice none 0 0, vq, .slice none 0 0, .slice none 0 0, fun b => if b < w1.heap.size then (if S1 b then 2 else if S2 b then 3 else 0) else if b < w2.heap.size then 4 else if b < w3.heap.size then 5 else if b < w4.heap.size then 6 else if b < w5.heap.size then 7 else if b < wf.heap.size then 1 else 0⟩, ?_, ?_⟩, b0.trans (k0.mono z0)⟩
 ·have P2 : ∀ b, S1 b → b < w1.heap.size := hl.lim
  have P3 : ∀ b, S2 b → b < w1.heap.size := hl.st.lim
  refine ⟨hh, ?_, ?_, ?_, ?_, ?_, ?_, ?_, ?_, ?_, ?_, ?_⟩
  ·refine htr.mono fun b hlt hb => ?_
   show (if _ then _ else _) = 1
   rw [if_neg (by omega), if_neg (by omega), if_neg (by omega), if_neg (by omega), if_neg (by omega), if_pos hlt]
  ·show G.OwnRow _ wf 4 1 vf (List.replicate p.trigs.length false).length ((List.replicate p.trigs.length false).map Value.bool)
   rw [List.length_replicate]
   refine hfa.mono fun b hlt hb => ?_
   show (if _ then _ else _) = 1
   rw [if_neg (by omega), if_neg (by omega), if_neg (by omega), if_neg (by omega), if_neg (by omega), if_pos hlt]
  ·refine (hl.below k1).mono (fun b _ hb => ?_) (fun b _ hb => ?_) (fun b hb => ?_) (fun b hb => ?_) (fun b hb hb2 => ?_)
   ·show (if _ then _ else _) = 2
    rw [if_pos (P2 b hb), if_pos hb]
   ·show (if _ then _ else _) = 3
    rw [if_pos (P3 b hb), if_neg (fun h => hl.dis b h hb), if_pos hb]
   ·have hb : (if b < w1.heap.size then (if S1 b then 2 else if S2 b then 3 else 0) else if b < w2.heap.size then 4 else if b < w3.heap.size then 5 else if b < w4.heap.size then 6 else if b < w5.heap.size then 7 else if b < wf.heap.size then 1 else 0) = 2 := hb
    repeat' split at hb
    all_goals omega
   ·have hb : (if b < w1.heap.size then (if S1 b then 2 else if S2 b then 3 else 0) else if b < w2.heap.size then 4 else if b < w3.heap.size then 5 else if b < w4.heap.size then 6 else if b < w5.heap.size then 7 else if b < wf.heap.size then 1 else 0) = 3 := hb
    repeat' split at hb
    all_goals omega
   have e : (2 : Nat) = 3 := hb.symm.trans hb2
   omega
  ·exact ht.chg (S := fun _ => False) (below_none (S := fun _ => False) k2) (fun h => h) (fun h => h)
  ·have := ht.head.inside
   show (if gt < w1.heap.size then _ else if gt < w2.heap.size then _ else _) = 4
   rw [if_neg (by omega), if_pos this]
  ·have := ht.parts.inside
   show (if gp < w1.heap.size then _ else if gp < w2.heap.size then _ else _) = 4
   rw [if_neg (by omega), if_pos this]
  ·refine (hq.chg (C := fun _ => False) (below_none (S := fun _ => False) k3) (fun _ _ h => h)).mono (fun b _ hb => ?_) (fun b hb => ?_)
   ·rcases hb with hb | hb
    ·exact hb.elim
    show (if _ then _ else _) = 5
    rw [if_neg (by omega), if_neg (by omega), if_pos hb.2]
   have hb : (if b < w1.heap.size then (if S1 b then 2 else if S2 b then 3 else 0) else if b < w2.heap.size then 4 else if b < w3.heap.size then 5 else if b < w4.heap.size then 6 else if b < w5.heap.size then 7 else if b < wf.heap.size then 1 else 0) = 5 := hb
   repeat' split at hb
   all_goals omega
  ·refine (hfl.chg (C := fun _ => False) (below_none (S := fun _ => False) k4) (fun _ _ h => h)).mono (fun b _ hb => ?_) (fun b hb => ?_)
   ·rcases hb with hb | hb
    ·exact hb.elim
    show (if _ then _ else _) = 6
    rw [if_neg (by omega), if_neg (by omega), if_neg (by omega), if_pos hb.2]
   have hb : (if b < w1.heap.size then (if S1 b then 2 else if S2 b then 3 else 0) else if b < w2.heap.size then 4 else if b < w3.heap.size then 5 else if b < w4.heap.size then 6 else if b < w5.heap.size then 7 else if b < wf.heap.size then 1 else 0) = 6 := hb
   repeat' split at hb
   all_goals omega
  ·refine (hb.chg (C := fun _ => False) (below_none (S := fun _ => False) k5) (fun _ _ h => h)).mono (fun b _ hb => ?_) (fun b hb => ?_)
   ·rcases hb with hb | hb
    ·exact hb.elim
    show (if _ then _ else _) = 7
    rw [if_neg (by omega), if_neg (by omega), if_neg (by omega), if_neg (by omega), if_pos hb.2]
   have hb : (if b < w1.heap.size then (if S1 b then 2 else if S2 b then 3 else 0) else if b < w2.heap.size then 4 else if b < w3.heap.size then 5 else if b < w4.heap.size then 6 else if b < w5.heap.size then 7 else if b < wf.heap.size then 1 else 0) = 7 := hb
   repeat' split at hb
   all_goals omega
  ·have := hh.inside
   show (if w5.heap.size < w1.heap.size then _ else if w5.heap.size < w2.heap.size then _ else if w5.heap.size < w3.heap.size then _ else if w5.heap.size < w4.heap.size then _ else if w5.heap.size < w5.heap.size then _ else if w5.heap.size < wf.heap.size then _ else _) = 1
   rw [if_neg (by omega), if_neg (by omega), if_neg (by omega), if_neg (by omega), if_neg (by omega), if_pos this]
  intro b hb
  have hb : (if b < w1.heap.size then (if S1 b then 2 else if S2 b then 3 else 0) else if b < w2.heap.size then 4 else if b < w3.heap.size then 5 else if b < w4.heap.size then 6 else if b < w5.heap.size then 7 else if b < wf.heap.size then 1 else 0) ≠ 0 := hb
  repeat' split at hb
  all_goals omega
 intro b hb
 have h1 : ¬ S1 b := fun h => by have := s1 b h; omega
 have h2 : ¬ S2 b := fun h => by have := s2 b h; omega
 refine ⟨?_, by omega⟩
 show (if _ then _ else _) = 0
 rw [if_pos (by omega), if_neg h1, if_neg h2]
structure NewMid (w w5 wx : World) (hd : Value → Array Value) (pl : Array Value) (ts : List Trg) (vt : Value) : Prop where
 head : G.At wx w5.heap.size 164 (hd vt)
 row : G.OwnRow (fun b => w5.heap.size ≤ b) wx 171 17 vt ts.length (ts.flatMap Trg.enc)
 box : G.At wx w.heap.size 101 pl
 u : Below w5.heap.size w5 wx
theorem wo_make (m : Nat) (h : (m : Int) ≤ 20) : ∀ W : World, (Instr.makeSlice 162 (.int .i64 (m : Int)) (.int .i64 (m : Int))).run Tryz.prog W = .ok (.slice (some ⟨W.heap.size, 0, none⟩) m m) (W.alloc (.cells (Array.replicate m (Value.bool false)) 4)) := fun W => by
 obtain ⟨i0, hi, hz0, hz1, hz2⟩ := info_parts (show (Tryz.prog.info? 4).map (fun i => (i.zero, i.size, i.bytes)) = some (some (.bool false), 1, 1) by kernel_rfl)
 have := run_make (P := Tryz.prog) W 162 4 i0 _ Tryz.underlying162 hi hz0 .i64 .i64 m m (by omega) (by omega) (by rw [hz2]; omega) (by omega)
 rw [Int.toNat_natCast, hz1] at this
 rw [this, Nat.mul_one]
 have e : madeCells #[.bool false] m = Array.replicate m (Value.bool false) := by
  unfold madeCells
  apply Array.ext
  ·simp
  intro i h1 h2
  simp [Nat.mod_one]
 rw [← e]
 rfl
theorem wo_row {S : Nat → Prop} (W : World) (n : Nat) (hS : S W.heap.size) (hn : n ≤ 1000000) :
  G.OwnRow S (W.alloc (.cells (Array.replicate n (Value.bool false)) 4)) 4 1 (.slice (some ⟨W.heap.size, 0, none⟩) n n) n ((List.replicate n false).map Value.bool) := by
 refine ⟨by simp, .inr ⟨_, n, rfl, hS, Nat.le_refl _, by simp only [maxLen]; omega, ?_⟩⟩
 have := (G.At.made W 4 (Array.replicate n (Value.bool false))).row
 simpa using this
def WoNewPost (w : World) (p : Pln) (parts most sec : Int) (e : Ending) (w' : World) : Prop := ∃ q : Wp, e = .returned (.tuple #[.pointer (some ⟨q.g, 0, none⟩), .int .i64 0]) ∧ WoN (fun b => b < w.heap.size) w' q (newWo p parts most sec) ∧ Below w.heap.size w w'
theorem woNewYes (p : Pln) (A : Option Addr) (cap : Nat) (parts : Nat) (most sec : Int) (w : World) (ht : G.ListIn w 17 Trg.enc (.slice A p.trigs.length cap) p.trigs) (hf : ∀ t ∈ p.trigs, t.fits) (hn : p.name.size ≤ 9223372036854775807) (hE : planE p = 0) (q1 : 1 ≤ parts) (q2 : parts ≤ 20) (s1 : -10000000000 ≤ sec) (s2 : sec ≤ 10000000000) :
  Calls Tryz.prog 56 #[plnV p (.slice A p.trigs.length cap), .int .i64 (parts : Int), .int .i64 most, .int .i64 sec] w (WoNewPost w p parts most sec) := by
 have hfew := (planE_ok hE).few
 have hl5 : p.trigs.length ≤ 9223372036854775807 := by omega
 obtain ⟨name, mn, mx, poll, cool, tol, back, after, shift, ⟨u0, u1, u2, u3⟩, ⟨d0, d1, d2, d3⟩, ts⟩ := p
 unfold plnV
 simp only at ht hf hn hl5 hE hfew ⊢
 have HB := J ((Below.refl w.heap.size w).alloc (Nat.le_refl _) (.cells (plnC ⟨name, mn, mx, poll, cool, tol, back, after, shift, ⟨u0, u1, u2, u3⟩, ⟨d0, d1, d2, d3⟩, ts⟩ (.slice A ts.length cap)) 101))
 have HX := J (G.At.made w 101 (plnC ⟨name, mn, mx, poll, cool, tol, back, after, shift, ⟨u0, u1, u2, u3⟩, ⟨d0, d1, d2, d3⟩, ts⟩ (.slice A ts.length cap)))
 have HC := J (fun (W : World) (hb : Below w.heap.size w W) => lopNewYes ⟨name, mn, mx, poll, cool, tol, back, after, shift, ⟨u0, u1, u2, u3⟩, ⟨d0, d1, d2, d3⟩, ts⟩ A cap W (ht.below hb (Nat.le_refl _)) hf hn hl5 hE)
 unfold plnC at HB HX
 have HT := J ht; have HFew := J hfew
 clear ht hf hn hl5 hE hfew
 have k0 : (1 : Int) ≤ (parts : Int) := by omega
 have k1 : (parts : Int) ≤ 20 := by omega
 have HMk := J (wo_make ts.length (by have := HFew.u; omega))
 go_enter Tryz.func56, Tryz.ntmps56
 go_upto_region 1 with fail
 simp only at HB HX
 have HCx := J (HC.u _ HB.u)
 generalize w.alloc (.cells #[.string name, .int .i64 mn, .int .i64 mx, .int .i64 poll, .int .i64 cool, .int .i64 tol, .int .i64 back, .int .i64 after, .int .i64 shift, .int .i64 u0, .int .i64 u1, .int .i64 u2, .int .i64 u3, .int .i64 d0, .int .i64 d1, .int .i64 d2, .int .i64 d3, .slice A ts.length cap] 101) = W at HB HX HCx ⊢
 clear HC
 go_wp2_with (refine wpList_load_row rfl 101 (.tmp 4) rfl w.heap.size rfl 101 _ (0, 0) _ HX.u Tryz.underlying101 rfl (by kernel_rfl) ?_)
 refine HCx.u.mono ?_
 rintro e w1 ⟨gl, gs, lt, lf, S1, S2, rfl, hl, l1, l2, hb1⟩
 have HL := J hl; have HL1 := J l1; have HL2 := J l2; have HB1 := J hb1
 clear hl l1 l2 hb1 HCx
 go_wp2_with fail
 refine (topNew parts q1 q2 _).mono ?_
 rintro e w2 ⟨gt, gp, rfl, htp, t1, t2, hb2⟩
 have HTp := J htp; have HT1 := J t1; have HT2 := J t2; have HB2 := J hb2
 clear htp t1 t2 hb2
 go_wp2_with fail
 refine (queNew _).mono ?_
 rintro e w3 ⟨gq, vq, rfl, hq, hb3⟩
 have HQ := J hq; have HB3 := J hb3
 clear hq hb3
 go_wp2_with fail
 refine (fleNew most _).mono ?_
 rintro e w4 ⟨gf, rfl, hfl, hb4⟩
 have HF := J hfl; have HB4 := J hb4
 clear hfl hb4
 go_wp2_with fail
 refine (bufNew _).mono ?_
 rintro e w5 ⟨gb, rfl, hbu, hb5⟩
 have HBu := J hbu; have HB5 := J hb5
 clear hbu hb5
 have hz5 : w.heap.size < w5.heap.size := by have := HX.u.inside; have := HB1.u.size; have := HB2.u.size; have := HB3.u.size; have := HB4.u.size; have := HB5.u.size; omega
 have HBx := J (show Below W.heap.size W w5 from by
  have z1 := HB1.u.size; have z2 := HB2.u.size; have z3 := HB3.u.size; have z4 := HB4.u.size
  exact (((HB1.u.trans (HB2.u.mono z1)).trans (HB3.u.mono (by omega))).trans (HB4.u.mono (by omega))).trans (HB5.u.mono (by omega)))
 have HPl := J ((HX.u.below HBx.u HX.u.inside).alloc (.cells #[.pointer (some ⟨gl, 0, none⟩), .pointer (some ⟨gt, 0, none⟩), .pointer (some ⟨gq, 0, none⟩), .pointer (some ⟨gf, 0, none⟩), .pointer (some ⟨gb, 0, none⟩), .slice none 0 0, .slice none 0 0, .int .i64 sec, .int .i64 0, .int .i64 0] 164))
 have HHd := J (G.At.made w5 164 #[.pointer (some ⟨gl, 0, none⟩), .pointer (some ⟨gt, 0, none⟩), .pointer (some ⟨gq, 0, none⟩), .pointer (some ⟨gf, 0, none⟩), .pointer (some ⟨gb, 0, none⟩), .slice none 0 0, .slice none 0 0, .int .i64 sec, .int .i64 0, .int .i64 0])
 have HB6 := J ((Below.refl w5.heap.size w5).alloc (Nat.le_refl _) (.cells #[.pointer (some ⟨gl, 0, none⟩), .pointer (some ⟨gt, 0, none⟩), .pointer (some ⟨gq, 0, none⟩), .pointer (some ⟨gf, 0, none⟩), .pointer (some ⟨gb, 0, none⟩), .slice none 0 0, .slice none 0 0, .int .i64 sec, .int .i64 0, .int .i64 0] 164))
 have HLi := J (HT.u.below ((HB.u.trans (HBx.u.mono HB.u.size)).trans (HB6.u.mono (by omega))) (Nat.le_refl _))
 go_upto_region 10 with fail
 generalize w5.alloc (.cells #[.pointer (some ⟨gl, 0, none⟩), .pointer (some ⟨gt, 0, none⟩), .pointer (some ⟨gq, 0, none⟩), .pointer (some ⟨gf, 0, none⟩), .pointer (some ⟨gb, 0, none⟩), .slice none 0 0, .slice none 0 0, .int .i64 sec, .int .i64 0, .int .i64 0] 164) = W5 at HPl HHd HB6 HLi ⊢
 go_cut [13] (fun s wx => s = .pointer (some ⟨w5.heap.size, 0, none⟩) ∧ Hid (∃ vt, NewMid w w5 wx (fun vt => #[.pointer (some ⟨gl, 0, none⟩), .pointer (some ⟨gt, 0, none⟩), .pointer (some ⟨gq, 0, none⟩), .pointer (some ⟨gf, 0, none⟩), .pointer (some ⟨gb, 0, none⟩), vt, .slice none 0 0, .int .i64 sec, .int .i64 0, .int .i64 0]) #[.string name, .int .i64 mn, .int .i64 mx, .int .i64 poll, .int .i64 cool, .int .i64 tol, .int .i64 back, .int .i64 after, .int .i64 shift, .int .i64 u0, .int .i64 u1, .int .i64 u2, .int .i64 u3, .int .i64 d0, .int .i64 d1, .int .i64 d2, .int .i64 d3, .slice A ts.length cap] ts vt))
 case first =>
  have c17 := HPl.u.here (i := 17) rfl
  have c5 := HHd.u.here (i := 5) rfl
  have f5 := HHd.u.soft 5
  have hgz := HHd.u.inside
  by_cases h0 : ts.length = 0
  ·obtain rfl : ts = [] := List.length_eq_zero_iff.1 h0
   have HM := J (show ∃ vt, NewMid w w5 ((W5.drew).setCell ⟨w5.heap.size, 5, none⟩ (.slice none 0 0)) (fun vt => #[.pointer (some ⟨gl, 0, none⟩), .pointer (some ⟨gt, 0, none⟩), .pointer (some ⟨gq, 0, none⟩), .pointer (some ⟨gf, 0, none⟩), .pointer (some ⟨gb, 0, none⟩), vt, .slice none 0 0, .int .i64 sec, .int .i64 0, .int .i64 0]) _ [] vt from ⟨_, (HHd.u.drew.put 5 (.slice none 0 0)), G.OwnRow.nil _ _ _ _, HPl.u.drew.other (p := ⟨w5.heap.size, 5, none⟩) (show w.heap.size ≠ w5.heap.size by omega) _, HB6.u.drew.setCell (Nat.le_refl _) _⟩)
   clear h0
   cases A
   all_goals
    go_region
    all_goals (go_wp2_with fail; go_meet; exact ⟨rfl, HM⟩)
  obtain ⟨i0, hi, hz0, hz1, hz2⟩ := info_parts trg_info
  obtain ⟨A', cap', eA, hA⟩ := HLi.u
  cases eA
  obtain ⟨bt, offt, rfl, hbt, hcells⟩ := hA (by omega)
  have HCl := J (list_cells Trg.enc_length (by omega) (by omega) HLi.u)
  have HL := J (G.flat_length Trg.enc_length ts); have H1 := J (trg_one (l := ts))
  have HO := J (G.OwnRow.nil (fun b => w5.heap.size ≤ b) W5 171 17)
  have hm3 := J (show 0 + ts.length ≤ maxLen by have := HFew.u; simp only [maxLen]; omega)
  have hm4 := J (show (0 + ts.length) * 120 ≤ 140737488355328 by have := HFew.u; omega)
  have hpos := J (show 0 < ts.length by omega)
  clear hA hcells h0
  go_region_law (refine step_append_lies _ (by rfl) (.tmp 49) (.tmp 51) 99 (by rfl) 0 171 i0 (.agg #[.int .i64 0, .int .i64 0, .int .i64 0, .int .u64 0, .int .u64 0, .int .u64 0, .int .u64 0, .int .u64 0, .bool false, .bool false, .int .u64 0, .int .u64 0, .int .u64 0, .int .u64 0, .int .u64 0, .bool false, .bool false]) 17 120 Tryz.underlying99 hi hz0 hz1 hz2 rfl (by decide) (.slice none 0 0) 0 [] rfl (HO.u.drew).owns ⟨bt, offt, none⟩ ts.length cap (ts.flatMap Trg.enc) rfl HL.u (fun j u hu => by rw [Addr.add_lit]; exact HCl.u j u hu) H1.u hpos.u hm3.u hm4.u (Nat.zero_le _) _ rfl ?_; intro g2 cap2 w6 hown hg ho hlt; have hh6 := HHd.u.drew.grown hg (by simp [Value.ownBlock]); have c6 := hh6.here (i := 5) rfl; have f6 := hh6.soft 5)
  all_goals
   have ro : G.OwnRow (fun b => w5.heap.size ≤ b) w6 171 17 (.slice (some ⟨g2, 0, none⟩) (0 + ts.length) cap2) (0 + ts.length) ([] ++ ts.flatMap Trg.enc) := G.OwnRow.of_owns hown fun g hgb => by
    simp [Value.ownBlock] at hgb
    rcases ho with e | e
    ·simp [Value.ownBlock] at e
    have : W5.drew.heap.size = W5.heap.size := rfl
    omega
   have bl6 : Below w5.heap.size w5 w6 := (HB6.u.drew).grown hg HB6.u.size (fun g e => by simp [Value.ownBlock] at e)
   have HM := J (show ∃ vt, NewMid w w5 (w6.setCell ⟨w5.heap.size, 5, none⟩ (.slice (some ⟨g2, 0, none⟩) (0 + ts.length) cap2)) (fun vt => #[.pointer (some ⟨gl, 0, none⟩), .pointer (some ⟨gt, 0, none⟩), .pointer (some ⟨gq, 0, none⟩), .pointer (some ⟨gf, 0, none⟩), .pointer (some ⟨gb, 0, none⟩), vt, .slice none 0 0, .int .i64 sec, .int .i64 0, .int .i64 0]) _ ts vt from by
    refine ⟨.slice (some ⟨g2, 0, none⟩) (0 + ts.length) cap2, hh6.put 5 _, ?_, (HPl.u.drew.grown hg (by simp [Value.ownBlock])).other (p := ⟨w5.heap.size, 5, none⟩) (show w.heap.size ≠ w5.heap.size by omega) _, bl6.setCell (Nat.le_refl _) _⟩
    rw [Nat.zero_add, List.nil_append] at ro
    rw [Nat.zero_add]
    exact ro.aside (p := ⟨w5.heap.size, 5, none⟩) (ro.apartAt hh6 (by decide)) _)
   clear hown hg ho hlt hh6 c6 f6 ro bl6
   go_wp2_with fail
   go_meet
   first | exact ⟨rfl, HM⟩ | (simp only [Nat.zero_add] at HM ⊢; exact ⟨trivial, HM⟩)
 obtain ⟨rfl, hM⟩ := hcut
 obtain ⟨vt, hM'⟩ := hM.u
 have HM := J hM'
 have c17 := hM'.box.here (i := 17) rfl
 have hgz := hM'.head.inside
 have c6 := hM'.head.here (i := 6) rfl
 have f6 := hM'.head.soft 6
 have hmk := HMk.u
 have HEnd := J (show WoNewPost w ⟨name, mn, mx, poll, cool, tol, back, after, shift, ⟨u0, u1, u2, u3⟩, ⟨d0, d1, d2, d3⟩, ts⟩ parts most sec (.returned (.tuple #[.pointer (some ⟨w5.heap.size, 0, none⟩), .int .i64 0])) ((wc.setCell ⟨w5.heap.size, 6, none⟩ (.slice (some ⟨wc.heap.size, 0, none⟩) ts.length ts.length)).alloc (.cells (Array.replicate ts.length (Value.bool false)) 4)) from by
  have hz := hM'.u.size
  have hz0 : (wc.setCell ⟨w5.heap.size, 6, none⟩ (.slice (some ⟨wc.heap.size, 0, none⟩) ts.length ts.length)).heap.size = wc.heap.size := G.size_put _ _ _
  have hrow := wo_row (S := fun b => w5.heap.size ≤ b) (wc.setCell ⟨w5.heap.size, 6, none⟩ (.slice (some ⟨wc.heap.size, 0, none⟩) ts.length ts.length)) ts.length (by rw [hz0]; exact hz) (by have := HFew.u; omega)
  rw [hz0] at hrow
  have hh := (hM'.head.put 6 (.slice (some ⟨wc.heap.size, 0, none⟩) ts.length ts.length)).alloc (.cells (Array.replicate ts.length (Value.bool false)) 4)
  have bl := (hM'.u.setCell (p := ⟨w5.heap.size, 6, none⟩) (Nat.le_refl _) (.slice (some ⟨wc.heap.size, 0, none⟩) ts.length ts.length)).alloc (by rw [hz0]; exact hz) (.cells (Array.replicate ts.length (Value.bool false)) 4)
  have hrt := (hM'.row.aside (p := ⟨w5.heap.size, 6, none⟩) (hM'.row.apartAt hM'.head (by decide)) (.slice (some ⟨wc.heap.size, 0, none⟩) ts.length ts.length)).alloc (.cells (Array.replicate ts.length (Value.bool false)) 4)
  obtain ⟨r1, r2⟩ := wo_made (p := ⟨name, mn, mx, poll, cool, tol, back, after, shift, ⟨u0, u1, u2, u3⟩, ⟨d0, d1, d2, d3⟩, ts⟩) (most := most) (sec := sec) HB.u HB1.u HB2.u HB3.u HB4.u HB5.u bl HL.u HL1.u HL2.u HTp.u HT1.u HT2.u HQ.u HF.u HBu.u hh hrt hrow
  exact ⟨_, rfl, r1, r2⟩)
 clear hM hM' HM HB HX HT HMk HL HL1 HL2 HB1 HTp HT1 HT2 HB2 HQ HB3 HF HB4 HBu HB5
 go_wp2_with fail
 go_ret2
 exact HEnd.u
theorem wo_new_err1 {p : Pln} {parts sec : Int} (h : planE p ≠ 0) : newE p parts sec = planE p := by unfold newE; rw [if_pos h]
theorem woNewBad (p : Pln) (A : Option Addr) (cap : Nat) (parts most sec : Int) (w : World) (ht : G.ListIn w 17 Trg.enc (.slice A p.trigs.length cap) p.trigs) (hf : ∀ t ∈ p.trigs, t.fits) (hn : p.name.size ≤ 9223372036854775807) (hl : p.trigs.length ≤ 9223372036854775807) (hE : planE p ≠ 0) :
  Calls Tryz.prog 56 #[plnV p (.slice A p.trigs.length cap), .int .i64 parts, .int .i64 most, .int .i64 sec] w fun e w' => e = .returned (.tuple #[.pointer none, .int .i64 (newE p parts sec)]) ∧ Below w.heap.size w w' := by
 rw [wo_new_err1 hE]
 obtain ⟨name, mn, mx, poll, cool, tol, back, after, shift, ⟨u0, u1, u2, u3⟩, ⟨d0, d1, d2, d3⟩, ts⟩ := p
 unfold plnV
 simp only at ht hf hn hl hE ⊢
 have HB := J ((Below.refl w.heap.size w).alloc (Nat.le_refl _) (.cells (plnC ⟨name, mn, mx, poll, cool, tol, back, after, shift, ⟨u0, u1, u2, u3⟩, ⟨d0, d1, d2, d3⟩, ts⟩ (.slice A ts.length cap)) 101))
 have HX := J (G.At.made w 101 (plnC ⟨name, mn, mx, poll, cool, tol, back, after, shift, ⟨u0, u1, u2, u3⟩, ⟨d0, d1, d2, d3⟩, ts⟩ (.slice A ts.length cap)))
 have HC := J (fun (W : World) (hb : Below w.heap.size w W) => lopNewNo ⟨name, mn, mx, poll, cool, tol, back, after, shift, ⟨u0, u1, u2, u3⟩, ⟨d0, d1, d2, d3⟩, ts⟩ A cap W (ht.below hb (Nat.le_refl _)) hf hn hl hE)
 unfold plnC at HB HX
 obtain ⟨E, hEE⟩ : ∃ E, planE ⟨name, mn, mx, poll, cool, tol, back, after, shift, ⟨u0, u1, u2, u3⟩, ⟨d0, d1, d2, d3⟩, ts⟩ = E := ⟨_, rfl⟩
 rw [hEE] at HC hE ⊢
 have hb1 : (E != 0) = true := by simpa using hE
 clear ht hf hn hl hE hEE
 go_enter Tryz.func56, Tryz.ntmps56
 go_upto_region 1 with fail
 simp only at HB HX
 have HCx := J (HC.u _ HB.u)
 generalize w.alloc (.cells #[.string name, .int .i64 mn, .int .i64 mx, .int .i64 poll, .int .i64 cool, .int .i64 tol, .int .i64 back, .int .i64 after, .int .i64 shift, .int .i64 u0, .int .i64 u1, .int .i64 u2, .int .i64 u3, .int .i64 d0, .int .i64 d1, .int .i64 d2, .int .i64 d3, .slice A ts.length cap] 101) = W at HB HX HCx ⊢
 clear HC
 go_wp2_with (refine wpList_load_row rfl 101 (.tmp 4) rfl w.heap.size rfl 101 _ (0, 0) _ HX.u Tryz.underlying101 rfl (by kernel_rfl) ?_)
 refine HCx.u.mono ?_
 rintro e w1 ⟨rfl, hb3⟩
 have HB3 := J (HB.u.trans (hb3.mono HB.u.size))
 clear hb3 HCx
 go_wp2_with fail
 go_ret2
 exact ⟨rfl, HB3.u⟩
theorem woNewNo (p : Pln) (A : Option Addr) (cap : Nat) (parts most sec : Int) (w : World) (ht : G.ListIn w 17 Trg.enc (.slice A p.trigs.length cap) p.trigs) (hf : ∀ t ∈ p.trigs, t.fits) (hn : p.name.size ≤ 9223372036854775807) (hE : planE p = 0) (hbad : (parts < 1 ∨ 20 < parts) ∨ (sec < -10000000000 ∨ 10000000000 < sec)) :
  Calls Tryz.prog 56 #[plnV p (.slice A p.trigs.length cap), .int .i64 parts, .int .i64 most, .int .i64 sec] w fun e w' => e = .returned (.tuple #[.pointer none, .int .i64 (newE p parts sec)]) ∧ Below w.heap.size w w' := by
 have hNE : newE p parts sec = 1 := by
  unfold newE
  rw [if_neg (by rw [hE]; simp)]
  split
  ·rfl
  split
  ·rfl
  omega
 rw [hNE]
 clear hNE
 have hfew := (planE_ok hE).few
 have hl5 : p.trigs.length ≤ 9223372036854775807 := by omega
 obtain ⟨name, mn, mx, poll, cool, tol, back, after, shift, ⟨u0, u1, u2, u3⟩, ⟨d0, d1, d2, d3⟩, ts⟩ := p
 unfold plnV
 simp only at ht hf hn hl5 hE hfew ⊢
 have HB := J ((Below.refl w.heap.size w).alloc (Nat.le_refl _) (.cells (plnC ⟨name, mn, mx, poll, cool, tol, back, after, shift, ⟨u0, u1, u2, u3⟩, ⟨d0, d1, d2, d3⟩, ts⟩ (.slice A ts.length cap)) 101))
 have HX := J (G.At.made w 101 (plnC ⟨name, mn, mx, poll, cool, tol, back, after, shift, ⟨u0, u1, u2, u3⟩, ⟨d0, d1, d2, d3⟩, ts⟩ (.slice A ts.length cap)))
 have HC := J (fun (W : World) (hb : Below w.heap.size w W) => lopNewYes ⟨name, mn, mx, poll, cool, tol, back, after, shift, ⟨u0, u1, u2, u3⟩, ⟨d0, d1, d2, d3⟩, ts⟩ A cap W (ht.below hb (Nat.le_refl _)) hf hn hl5 hE)
 unfold plnC at HB HX
 have HBad := J hbad
 clear ht hf hn hl5 hE hfew hbad
 go_enter Tryz.func56, Tryz.ntmps56
 go_upto_region 1 with fail
 simp only at HB HX
 have HCx := J (HC.u _ HB.u)
 generalize w.alloc (.cells #[.string name, .int .i64 mn, .int .i64 mx, .int .i64 poll, .int .i64 cool, .int .i64 tol, .int .i64 back, .int .i64 after, .int .i64 shift, .int .i64 u0, .int .i64 u1, .int .i64 u2, .int .i64 u3, .int .i64 d0, .int .i64 d1, .int .i64 d2, .int .i64 d3, .slice A ts.length cap] 101) = W at HB HX HCx ⊢
 clear HC
 go_wp2_with (refine wpList_load_row rfl 101 (.tmp 4) rfl w.heap.size rfl 101 _ (0, 0) _ HX.u Tryz.underlying101 rfl (by kernel_rfl) ?_)
 refine HCx.u.mono ?_
 rintro e w1 ⟨gl, gs, lt, lf, S1, S2, rfl, _, _, _, hb1⟩
 have HB1 := J (HB.u.trans (hb1.mono HB.u.size))
 clear hb1 HCx
 go_wp2_with fail
 by_cases hp : parts < 1 ∨ 20 < parts
 ·refine (topNew_no parts hp _).mono ?_
  rintro e w2 ⟨rfl, rfl⟩
  clear hp
  go_wp2_with fail
  go_ret2
  exact ⟨rfl, HB1.u⟩
 have hs : sec < -10000000000 ∨ 10000000000 < sec := HBad.u.resolve_left hp
 obtain ⟨n, rfl⟩ := Int.eq_ofNat_of_zero_le (show 0 ≤ parts by omega)
 refine (topNew n (by omega) (by omega) _).mono ?_
 rintro e w2 ⟨gt, gp, rfl, _, _, _, hb2⟩
 have HB2 := J (HB1.u.trans (hb2.mono HB1.u.size))
 clear hb2 HB1 hp
 by_cases h1 : sec < -10000000000
 ·clear hs
  go_wp2_with fail
  go_ret2
  exact ⟨rfl, HB2.u⟩
 have h2 : 10000000000 < sec := by omega
 clear hs
 go_wp2_with fail
 go_ret2
 exact ⟨rfl, HB2.u⟩
end Go.Proofs.YtoidcbpcnikejaaGreatDoor
