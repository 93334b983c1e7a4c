/- The contract of (*reader).head. -/
import Derived.Test.YtoidcbpcnikejaaGreatDoorDq16
set_option linter.unusedVariables false
set_option linter.unusedSimpArgs false
set_option maxRecDepth 100000
set_option maxHeartbeats 12800000
namespace Go.Proofs.YtoidcbpcnikejaaGreatDoor
open Go.RowKit
structure HeadMid (w wx : World) (s : ByteArray) (g gp bw : Nat) (p : Pln) (v : Value) : Prop where
 words : WdsAt wx bw 0 (wordsOf s)
 rd : G.At wx g 146 #[.string (G.cutY 10 s), .int .i64 (0 + 1)]
 chg : G.Chg (fun b => b = g ∨ b = gp) w wx
 fine : (G.cutZ 10 s && headOk (wordsOf s)) = true → G.At wx gp 101 (setK (plnC p v) [1, 2, 3, 4] ((wordsOf s).drop 2) 4)
theorem HeadMid.below {w wx wy : World} {s : ByteArray} {g gp bw : Nat} {p : Pln} {v : Value} (h : HeadMid w wx s g gp bw p v) (hb : Below wx.heap.size wx wy) : HeadMid w wy s g gp bw p v :=
 ⟨h.words.below hb, h.rd.below hb h.rd.inside, h.chg.step_below hb h.chg.size, fun q => (h.fine q).below hb (h.fine q).inside⟩
theorem head_ill {p : Pln} {ws : List ByteArray} (h : headOk ws = false) : lineN 0 p ws = none := if_neg (by rw [h]; simp)
theorem headOk_word {ws : List ByteArray} (h : G.pieceAt ws 0 ≠ wdPlan) : headOk ws = false := by unfold headOk; rw [decide_eq_false h]; rfl
theorem headOk_many {ws : List ByteArray} (h : ws.length ≠ 6) : headOk ws = false := by unfold headOk; rw [decide_eq_false h]; simp
theorem headOk_name {ws : List ByteArray} (h : nameOk (G.pieceAt ws 1) = false) : headOk ws = false := by unfold headOk; rw [h]; simp
theorem headOk_is {ws : List ByteArray} (h0 : G.pieceAt ws 0 = wdPlan) (h1 : ws.length = 6) (h2 : nameOk (G.pieceAt ws 1) = true) : headOk ws = wordsOk (ws.drop 2) 4 := by unfold headOk; rw [decide_eq_true h0, decide_eq_true h1, h2]; rfl
theorem readerHead (w : World) (R : Option Pln × Nat) (m : Int) (g gp : Nat) (v : Value) (pl : Pln) (s : ByteArray) (h : HdS w w R m g gp v 0 pl s) :
  Calls Tryz.prog 75 #[.pointer (some ⟨g, 0, none⟩), .pointer (some ⟨gp, 0, none⟩)] w (StepPost w R m g gp v 3) := by
 obtain ⟨l0, l1, l2⟩ := words_len s h.size
 have HW := J l2
 have HLn := J (readerLine g s 0 m w h.rd h.size (by omega) (by omega) h.mx h.ne.2.1)
 have HH := J h
 obtain ⟨x, hx⟩ := G.get_some (wordsOf s) (show 0 < (wordsOf s).length by omega)
 have hpx := G.pieceAt_get hx
 have HX := J hx
 have HPx := J hpx
 obtain ⟨ok, hok⟩ : ∃ ok, (G.cutZ 10 s && headOk (wordsOf s)) = ok := ⟨_, rfl⟩
 have HOk := J hok
 obtain ⟨n, hn⟩ : ∃ n, (wordsOf s).length = n := ⟨_, rfl⟩
 have HN := J hn
 obtain ⟨z, hz⟩ : ∃ z, G.cutZ 10 s = z := ⟨_, rfl⟩
 have HZ := J hz
 unfold LinePost at HLn
 rw [hn, hz] at HLn
 rw [hn] at l0 l1
 have i1 : (n : Int) ≤ 1000001 := by omega
 have i2 : (0 : Int) < (n : Int) := by omega
 clear h l2 hx hpx hok hn hz
 go_enter Tryz.func75, Tryz.ntmps75
 go_wp2_with fail
 refine HLn.u.mono ?_
 rintro e w1 ⟨bw, rfl, hw1, hbw, hr1, hc1⟩
 have hgpl := HH.u.plan.inside
 have hgl := HH.u.rd.inside
 have HG1 := J (HH.u.plan.chg hc1 HH.u.ne.1)
 have H1 := J (show ok = false → HeadMid w w1 s g gp bw pl v from fun hf => ⟨hw1, hr1, hc1.mono (fun b _ hb => (Or.inl hb : b = g ∨ b = gp)), fun q => by rw [HOk.u, hf] at q; cases q⟩)
 have HW1 := J hw1
 have HR1 := J hr1
 have HC1 := J (hc1.mono (fun b _ hb => (Or.inl hb : b = g ∨ b = gp)))
 have c0 : w1.cell? ⟨bw, 0, none⟩ = some (.string x) := hw1.cell 0 x HX.u
 have nbp : bw ≠ gp := by omega
 clear hw1 hr1 hc1 HLn
 go_upto_region 2 with fail
 go_cut [50] (fun y wx => y = .bool (!ok) ∧ Hid (HeadMid w wx s g gp bw pl v))
 case first =>
  have HDn := J (fun (hf : ok = false) k => (H1.u hf).below (below_drewN (Below.refl _ _) k))
  cases z
  ·have hf : ok = false := by rw [← HOk.u, HZ.u]; rfl
   have HD := J (HDn.u hf)
   subst hf
   clear HDn
   go_quiet (fail)
   go_wp2_with fail
   go_meet
   exact ⟨rfl, J (HD.u _)⟩
  by_cases hxw : x = wdPlan
  ·have e1 : (x.toList == [112, 108, 97, 110]) = true := by subst hxw; rw [ByteArray.toList_eq]; rfl
   by_cases h6 : n = 6
   ·subst h6
    obtain ⟨y, hy⟩ := G.get_some (wordsOf s) (show 1 < (wordsOf s).length by rw [HN.u]; decide)
    have hpy := G.pieceAt_get hy
    have HY := J hy
    have hys := HW.u y (List.mem_of_getElem? hy)
    have HNm := J (fun (W : World) => (planNamed y (by omega) W))
    have c1 : w1.cell? ⟨bw, 1, none⟩ = some (.string y) := HW1.u.cell 1 y hy
    cases hq : nameOk y
    ·have hf : ok = false := by rw [← HOk.u, headOk_name (by rw [hpy]; exact hq), Bool.and_false]
     have HD := J (HDn.u hf)
     rw [hq] at HNm
     have HNq := J (fun (W : World) => ((HNm.u W).mono (fun _ _ q => ⟨q.1, q.2.symm⟩) : Calls Tryz.prog 115 #[.string y] W fun e w' => e = .returned (.bool false) ∧ w' = W))
     subst hf
     clear HDn hq hy hpy hxw l0 l1
     go_quiet ((go_at_call 115; exact Calls.quiet_of_same (HNq.u _)))
     go_wp2_with fail
     go_meet
     exact ⟨rfl, J (HD.u _)⟩
    have HOk2 := J (show wordsOk ((wordsOf s).drop 2) 4 = ok by rw [← HOk.u, HZ.u, headOk_is (by rw [HPx.u]; exact hxw) HN.u (by rw [hpy]; exact hq), Bool.true_and])
    rw [hq] at HNm
    have HRd := J (fun (W : World) (bt : Nat) (hb : Below w1.heap.size w1 W) (hbt : w1.heap.size ≤ bt) (hp : G.At W bt 208 (ptrs gp [1, 2, 3, 4])) => (by
     have := planRead ((wordsOf s).drop 2) [1, 2, 3, 4] bw 2 4 bt 4 gp 101 (plnC pl v) W (by have := (HW1.u.below hb).drop 2; rwa [Nat.zero_add] at this) hp (HG1.u.below hb HG1.u.inside) (by intro o ho; show o < 18; revert o; decide) nbp (by have := HG1.u.inside; omega) (fun z hz => HW.u z (List.mem_of_mem_drop hz)) (by decide) (by rw [List.length_drop, HN.u]; decide)
     rw [List.length_drop, HN.u] at this
     exact this : Calls Tryz.prog 116 #[.slice (some ⟨bw, 2, none⟩) 4 4, .slice (some ⟨bt, 0, none⟩) 4 4] W (NumsPost W gp 101 (plnC pl v) [1, 2, 3, 4] ((wordsOf s).drop 2))))
    have HE := J (fun (W W2 : World) (k : Nat) (hb : Below w1.heap.size w1 W) (hat : G.At W2 gp 101 (setK (plnC pl v) [1, 2, 3, 4] ((wordsOf s).drop 2) k)) (hkk : ok = true → k = 4) (hc : G.Chg (fun b => b = gp) W W2) => (show HeadMid w W2 s g gp bw pl v from
     ⟨(HW1.u.below hb).chg hc nbp, (HR1.u.below hb HR1.u.inside).chg hc (fun e => HH.u.ne.1 e.symm), (HC1.u.step_below hb HC1.u.size).trans (hc.mono fun b _ hb => Or.inr hb), fun q => by rw [HOk.u] at q; have := hkk q; subst this; exact hat⟩))
    clear HDn hq hy hpy hxw l0 l1 H1 HG1
    go_region_held3 (fun w' => w'.cell? ⟨bw, 0, none⟩ = some (.string x) ∧ w'.cell? ⟨bw, 1, none⟩ = some (.string y)) (first | exact ⟨c0, c1⟩ | exact ⟨d0, d1⟩ | go_keep) (first | (go_at_call 115; refine (HNm.u _).mono ?_; rintro e w2 ⟨rfl, rfl⟩) | (go_at_call 116; refine (HRd.u (w1.drew.alloc (.cells #[.pointer (some ⟨gp, 1, none⟩), .pointer (some ⟨gp, 2, none⟩), .pointer (some ⟨gp, 3, none⟩), .pointer (some ⟨gp, 4, none⟩)] 208)) w1.drew.heap.size ((Below.refl _ _).drew.alloc (Nat.le_refl _) _) (Nat.le_refl _) (G.At.made _ _ _)).mono ?_; rintro e w2 ⟨rfl, ⟨k, hk, hat, hkk⟩, hc2⟩; have HM := J (HE.u _ w2 k ((Below.refl _ _).drew.alloc (Nat.le_refl _) _) hat (by rw [← HOk2.u]; exact hkk) hc2); rw [show wordsOk ((wordsOf s).drop 2) ([1, 2, 3, 4] : List Nat).length = ok from HOk2.u]; have d0 := (HM.u.words).cell 0 x HX.u; have d1 : w2.cell? ⟨bw, 1, none⟩ = some (.string y) := (HM.u.words).cell 1 y HY.u))
    all_goals
     go_wp2_with fail
     go_meet
     exact ⟨by cases ok <;> rfl, HM⟩
   have hf : ok = false := by rw [← HOk.u, headOk_many (by rw [HN.u]; exact h6), Bool.and_false]
   have HD := J (HDn.u hf)
   have h6b : ((n : Int) != 6) = true := by simp; omega
   subst hf
   clear HDn h6 hxw l0 l1
   go_quiet (fail)
   go_wp2_with fail
   go_meet
   exact ⟨rfl, J (HD.u _)⟩
  have e1 : (x.toList == [112, 108, 97, 110]) = false := by
   have := same_words x wdPlan
   rw [decide_eq_false hxw, show wdPlan.toList = [112, 108, 97, 110] by rw [ByteArray.toList_eq]; rfl] at this
   exact this
  have hf : ok = false := by rw [← HOk.u, headOk_word (by rw [HPx.u]; exact hxw), Bool.and_false]
  have HD := J (HDn.u hf)
  subst hf
  clear HDn hxw l0 l1
  go_quiet (fail)
  go_wp2_with fail
  go_meet
  exact ⟨rfl, J (HD.u _)⟩
 obtain ⟨rfl, HM⟩ := hcut
 clear c0 HR1 HC1 HW1 H1
 rename World => W2
 cases ok
 ·have HF := J (show StepPost w R m g gp v 3 (.returned (.bool false)) W2 from ⟨false, rfl, (by simp), fun _ => ⟨1, _, by
   cases hz : G.cutZ 10 s
   ·exact HH.u.reads.cut (.inl (by omega)) hz
   have := HOk.u
   rw [hz, Bool.true_and] at this
   exact HH.u.reads.bad (.inl (by omega)) hz (head_ill this), HM.u.rd, HM.u.chg⟩⟩)
  go_wp2_with fail
  go_ret
  exact HF.u
 have hok := HOk.u
 rw [Bool.and_eq_true] at hok
 obtain ⟨pl1, q1, q2, q3⟩ := head_row0 (p := pl) (v := v) hok.2
 have hn6 : n = 6 := by
  have := hok.2
  unfold headOk at this
  simp only [Bool.and_eq_true, decide_eq_true_eq] at this
  exact HN.u.symm.trans this.2.1
 subst hn6
 obtain ⟨y, hy⟩ := G.get_some (wordsOf s) (show 1 < (wordsOf s).length by rw [HN.u]; decide)
 have c1 : W2.cell? ⟨bw, 1, none⟩ = some (.string y) := HM.u.words.cell 1 y hy
 have hfin := HM.u.fine HOk.u
 have d0 : W2.cell? ⟨gp, 0, none⟩ = some (.string pl.name) := hfin.here (by simp only [setK]; rfl)
 have p0 := hfin.soft 0
 have H3 := J (show HdS w (W2.setCell ⟨gp, 0, none⟩ (.string y)) R m g gp v 1 pl1 (G.cutY 10 s) from by
  have hat := hfin.put 0 (.string y)
  rw [← G.pieceAt_get hy, q3] at hat
  have hch := HM.u.chg.put (p := ⟨gp, 0, none⟩) (.inl (.inr rfl)) (.string y)
  rw [← G.pieceAt_get hy]
  rw [← G.pieceAt_get hy] at hch
  refine ⟨HH.u.reads.next (.inl (by omega)) hok.1 q1, hat, HM.u.rd.other (fun e => HH.u.ne.1 e.symm) _, ?_, hch, q2.trans HH.u.trigs, Nat.le_trans (G.cutY_size 10 s) HH.u.size, by omega, HH.u.ne, Nat.le_trans (G.cutY_size 10 s) HH.u.sz⟩
  exact (chg_cell hch (World.block_lt_of_cell? _ _ HH.u.mx) (fun hb => hb.elim HH.u.ne.2.1 HH.u.ne.2.2) 0).trans HH.u.mx)
 clear hfin hok q1 q2 q3 hy l0 l1
 as_aux_lemma =>
 go_upto_region 5 with fail
 clear c1 d0 p0
 generalize W2.setCell ⟨gp, 0, none⟩ (.string y) = W3 at H3 ⊢
 clear HM HH HOk
 refine wp_region_held_drew (S := fun _ => True) (by kernel_rfl) trivial (fun hS => ?_)
 clear hS
 change wpAnyH _ _ _ _ _ 58 #[false, false, false, false, false, false, false, false, false, false, false, false, false, false, false, false, false, false, false, false, false, false, false, false, false, false, false, false, false, false, false, false, false, false, false, false, false, false, false, false, false, false, false, false, false, false, false, false, false, false, false, false, false, false, false, false, false, false] _ (World.drew _)
 have P0 := H3.u.drew
 generalize W3.drew = W0 at P0 ⊢
 refine tq 0 (.pointer (some ⟨g, 0, none⟩)) rfl (fun W hW => ?_) trivial ?_
 ·clear hW; go_simp
 simp only [Act.put, tkS]
 refine tq 1 (.pointer (some ⟨gp, 0, none⟩)) rfl (fun W hW => ?_) trivial ?_
 ·clear hW; go_simp
 simp only [Act.put, tkS]
 refine tq 2 (.pointer (some ⟨gp, 0, none⟩)) rfl (fun W hW => ?_) trivial ?_
 ·clear hW; go_simp
 simp only [Act.put, tkS]
 refine tq 3 (.pointer (some ⟨gp, 5, none⟩)) rfl (fun W hW => ?_) trivial ?_
 ·clear hW; go_simp
 simp only [Act.put, tkS]
 refine tq 4 (.pointer (some ⟨gp, 0, none⟩)) rfl (fun W hW => ?_) trivial ?_
 ·clear hW; go_simp
 simp only [Act.put, tkS]
 refine tq 5 (.pointer (some ⟨gp, 0, none⟩)) rfl (fun W hW => ?_) trivial ?_
 ·clear hW; go_simp
 simp only [Act.put, tkS]
 refine tq 6 (.pointer (some ⟨gp, 6, none⟩)) rfl (fun W hW => ?_) trivial ?_
 ·clear hW; go_simp
 simp only [Act.put, tkS]
 refine tq 7 (.pointer (some ⟨gp, 0, none⟩)) rfl (fun W hW => ?_) trivial ?_
 ·clear hW; go_simp
 simp only [Act.put, tkS]
 refine tq 8 (.pointer (some ⟨gp, 0, none⟩)) rfl (fun W hW => ?_) trivial ?_
 ·clear hW; go_simp
 simp only [Act.put, tkS]
 refine tq 9 (.pointer (some ⟨gp, 7, none⟩)) rfl (fun W hW => ?_) trivial ?_
 ·clear hW; go_simp
 simp only [Act.put, tkS]
 refine tq 10 (.pointer (some ⟨gp, 0, none⟩)) rfl (fun W hW => ?_) trivial ?_
 ·clear hW; go_simp
 simp only [Act.put, tkS]
 refine tq 11 (.pointer (some ⟨gp, 0, none⟩)) rfl (fun W hW => ?_) trivial ?_
 ·clear hW; go_simp
 simp only [Act.put, tkS]
 refine tq 12 (.pointer (some ⟨gp, 8, none⟩)) rfl (fun W hW => ?_) trivial ?_
 ·clear hW; go_simp
 simp only [Act.put, tkS]
 refine wpAnyH_ready (rs := [13]) (by kernel_rfl) (by simp) (AllReadyH.cons rfl (fun K hK => ?_) AllReadyH.nil)
 go_simp
 have P1 := P0.alloc (.cells #[.pointer (some ⟨gp, 5, none⟩), .pointer (some ⟨gp, 6, none⟩), .pointer (some ⟨gp, 7, none⟩), .pointer (some ⟨gp, 8, none⟩)] 208)
 have Q0 := G.At.made W0 208 #[.pointer (some ⟨gp, 5, none⟩), .pointer (some ⟨gp, 6, none⟩), .pointer (some ⟨gp, 7, none⟩), .pointer (some ⟨gp, 8, none⟩)]
 have e0a : W0.heap.size ≠ g := by have := P0.rd.inside; omega
 have e0b : W0.heap.size ≠ gp := by have := P0.plan.inside; omega
 refine hK.out _ _ trivial (fun hS => ?_)
 clear hS hK K
 generalize W0.alloc (.cells #[.pointer (some ⟨gp, 5, none⟩), .pointer (some ⟨gp, 6, none⟩), .pointer (some ⟨gp, 7, none⟩), .pointer (some ⟨gp, 8, none⟩)] 208) = V0 at P1 Q0 ⊢
 generalize W0.heap.size = b0 at Q0 e0a e0b ⊢
 refine wpAnyH_ready (rs := [14]) (by kernel_rfl) (by simp) (AllReadyH.cons rfl (fun K hK => ?_) AllReadyH.nil)
 go_simp
 refine (headRow w V0 R m g gp v 1 _ _ b0 4 (by omega) (by omega) P1 Q0 e0a e0b).mono ?_
 rintro e W10 ⟨r0, rfl, ht0, hf0⟩
 go_wp2_with fail
 refine hK.out _ _ trivial (fun hS => ?_)
 clear hS hK K
 cases r0
 ·have HF := J (show StepPost w R m g gp v 3 (.returned (.bool false)) W10 from ⟨false, rfl, (by simp), hf0⟩)
  clear ht0 hf0
  refine tq 15 (.bool false) rfl (fun W hW => ?_) trivial ?_
  ·clear hW; go_simp
  simp only [Act.put, tkS]
  refine tk 16 undef rfl (.inr ⟨by rfl, rfl⟩) trivial ?_
  simp only [Act.put, tkS]
  refine tk 17 undef rfl (.inr ⟨by rfl, rfl⟩) trivial ?_
  simp only [Act.put, tkS]
  refine tk 18 undef rfl (.inr ⟨by rfl, rfl⟩) trivial ?_
  simp only [Act.put, tkS]
  refine tk 19 undef rfl (.inr ⟨by rfl, rfl⟩) trivial ?_
  simp only [Act.put, tkS]
  refine tk 20 undef rfl (.inr ⟨by rfl, rfl⟩) trivial ?_
  simp only [Act.put, tkS]
  refine tk 21 undef rfl (.inr ⟨by rfl, rfl⟩) trivial ?_
  simp only [Act.put, tkS]
  refine tk 22 undef rfl (.inr ⟨by rfl, rfl⟩) trivial ?_
  simp only [Act.put, tkS]
  refine tk 23 undef rfl (.inr ⟨by rfl, rfl⟩) trivial ?_
  simp only [Act.put, tkS]
  refine tk 24 undef rfl (.inr ⟨by rfl, rfl⟩) trivial ?_
  simp only [Act.put, tkS]
  refine tk 25 undef rfl (.inr ⟨by rfl, rfl⟩) trivial ?_
  simp only [Act.put, tkS]
  refine tk 26 undef rfl (.inr ⟨by rfl, rfl⟩) trivial ?_
  simp only [Act.put, tkS]
  refine tk 27 undef rfl (.inr ⟨by rfl, rfl⟩) trivial ?_
  simp only [Act.put, tkS]
  refine tk 28 undef rfl (.inr ⟨by rfl, rfl⟩) trivial ?_
  simp only [Act.put, tkS]
  refine tk 29 undef rfl (.inr ⟨by rfl, rfl⟩) trivial ?_
  simp only [Act.put, tkS]
  refine tk 30 undef rfl (.inr ⟨by rfl, rfl⟩) trivial ?_
  simp only [Act.put, tkS]
  refine tk 31 undef rfl (.inr ⟨by rfl, rfl⟩) trivial ?_
  simp only [Act.put, tkS]
  refine tk 32 undef rfl (.inr ⟨by rfl, rfl⟩) trivial ?_
  simp only [Act.put, tkS]
  refine tk 33 undef rfl (.inr ⟨by rfl, rfl⟩) trivial ?_
  simp only [Act.put, tkS]
  refine tk 34 undef rfl (.inr ⟨by rfl, rfl⟩) trivial ?_
  simp only [Act.put, tkS]
  refine tq 35 (.bool false) rfl (fun W hW => ?_) trivial ?_
  ·clear hW; go_simp
  simp only [Act.put, tkS]
  refine tq 36 (.bool false) rfl (fun W hW => ?_) trivial ?_
  ·clear hW; go_simp
  simp only [Act.put, tkS]
  refine tk 37 undef rfl (.inr ⟨by rfl, rfl⟩) trivial ?_
  simp only [Act.put, tkS]
  refine tk 38 undef rfl (.inr ⟨by rfl, rfl⟩) trivial ?_
  simp only [Act.put, tkS]
  refine tk 39 undef rfl (.inr ⟨by rfl, rfl⟩) trivial ?_
  simp only [Act.put, tkS]
  refine tk 40 undef rfl (.inr ⟨by rfl, rfl⟩) trivial ?_
  simp only [Act.put, tkS]
  refine tk 41 undef rfl (.inr ⟨by rfl, rfl⟩) trivial ?_
  simp only [Act.put, tkS]
  refine tk 42 undef rfl (.inr ⟨by rfl, rfl⟩) trivial ?_
  simp only [Act.put, tkS]
  refine tk 43 undef rfl (.inr ⟨by rfl, rfl⟩) trivial ?_
  simp only [Act.put, tkS]
  refine tk 44 undef rfl (.inr ⟨by rfl, rfl⟩) trivial ?_
  simp only [Act.put, tkS]
  refine tk 45 undef rfl (.inr ⟨by rfl, rfl⟩) trivial ?_
  simp only [Act.put, tkS]
  refine tk 46 undef rfl (.inr ⟨by rfl, rfl⟩) trivial ?_
  simp only [Act.put, tkS]
  refine tk 47 undef rfl (.inr ⟨by rfl, rfl⟩) trivial ?_
  simp only [Act.put, tkS]
  refine tk 48 undef rfl (.inr ⟨by rfl, rfl⟩) trivial ?_
  simp only [Act.put, tkS]
  refine tk 49 undef rfl (.inr ⟨by rfl, rfl⟩) trivial ?_
  simp only [Act.put, tkS]
  refine tk 50 undef rfl (.inr ⟨by rfl, rfl⟩) trivial ?_
  simp only [Act.put, tkS]
  refine tk 51 undef rfl (.inr ⟨by rfl, rfl⟩) trivial ?_
  simp only [Act.put, tkS]
  refine tk 52 undef rfl (.inr ⟨by rfl, rfl⟩) trivial ?_
  simp only [Act.put, tkS]
  refine tk 53 undef rfl (.inr ⟨by rfl, rfl⟩) trivial ?_
  simp only [Act.put, tkS]
  refine tk 54 undef rfl (.inr ⟨by rfl, rfl⟩) trivial ?_
  simp only [Act.put, tkS]
  refine tk 55 undef rfl (.inr ⟨by rfl, rfl⟩) trivial ?_
  simp only [Act.put, tkS]
  refine tq 56 (.bool false) rfl (fun W hW => ?_) trivial ?_
  ·clear hW; go_simp
  simp only [Act.put, tkS]
  refine tq 57 (.bool false) rfl (fun W hW => ?_) trivial ?_
  ·clear hW; go_simp
  simp only [Act.put, tkS]
  refine wpAnyH_done (by kernel_rfl) ?_ _
  go_wp2_with fail
  go_ret
  exact HF.u
 obtain ⟨pl2, rest2, P2⟩ := ht0 rfl
 clear hf0
 refine tq 15 (.bool true) rfl (fun W hW => ?_) trivial ?_
 ·clear hW; go_simp
 simp only [Act.put, tkS]
 refine tq 16 (.pointer (some ⟨g, 0, none⟩)) rfl (fun W hW => ?_) trivial ?_
 ·clear hW; go_simp
 simp only [Act.put, tkS]
 refine tq 17 (.pointer (some ⟨gp, 0, none⟩)) rfl (fun W hW => ?_) trivial ?_
 ·clear hW; go_simp
 simp only [Act.put, tkS]
 refine tq 18 (.pointer (some ⟨gp, 0, none⟩)) rfl (fun W hW => ?_) trivial ?_
 ·clear hW; go_simp
 simp only [Act.put, tkS]
 refine tq 19 (.pointer (some ⟨gp, 9, none⟩)) rfl (fun W hW => ?_) trivial ?_
 ·clear hW; go_simp
 simp only [Act.put, tkS]
 refine tq 20 (.pointer (some ⟨gp, 9, none⟩)) rfl (fun W hW => ?_) trivial ?_
 ·clear hW; go_simp
 simp only [Act.put, tkS]
 refine tq 21 (.pointer (some ⟨gp, 0, none⟩)) rfl (fun W hW => ?_) trivial ?_
 ·clear hW; go_simp
 simp only [Act.put, tkS]
 refine tq 22 (.pointer (some ⟨gp, 0, none⟩)) rfl (fun W hW => ?_) trivial ?_
 ·clear hW; go_simp
 simp only [Act.put, tkS]
 refine tq 23 (.pointer (some ⟨gp, 9, none⟩)) rfl (fun W hW => ?_) trivial ?_
 ·clear hW; go_simp
 simp only [Act.put, tkS]
 refine tq 24 (.pointer (some ⟨gp, 10, none⟩)) rfl (fun W hW => ?_) trivial ?_
 ·clear hW; go_simp
 simp only [Act.put, tkS]
 refine tq 25 (.pointer (some ⟨gp, 0, none⟩)) rfl (fun W hW => ?_) trivial ?_
 ·clear hW; go_simp
 simp only [Act.put, tkS]
 refine tq 26 (.pointer (some ⟨gp, 0, none⟩)) rfl (fun W hW => ?_) trivial ?_
 ·clear hW; go_simp
 simp only [Act.put, tkS]
 refine tq 27 (.pointer (some ⟨gp, 9, none⟩)) rfl (fun W hW => ?_) trivial ?_
 ·clear hW; go_simp
 simp only [Act.put, tkS]
 refine tq 28 (.pointer (some ⟨gp, 11, none⟩)) rfl (fun W hW => ?_) trivial ?_
 ·clear hW; go_simp
 simp only [Act.put, tkS]
 refine tq 29 (.pointer (some ⟨gp, 0, none⟩)) rfl (fun W hW => ?_) trivial ?_
 ·clear hW; go_simp
 simp only [Act.put, tkS]
 refine tq 30 (.pointer (some ⟨gp, 0, none⟩)) rfl (fun W hW => ?_) trivial ?_
 ·clear hW; go_simp
 simp only [Act.put, tkS]
 refine tq 31 (.pointer (some ⟨gp, 9, none⟩)) rfl (fun W hW => ?_) trivial ?_
 ·clear hW; go_simp
 simp only [Act.put, tkS]
 refine tq 32 (.pointer (some ⟨gp, 12, none⟩)) rfl (fun W hW => ?_) trivial ?_
 ·clear hW; go_simp
 simp only [Act.put, tkS]
 refine wpAnyH_ready (rs := [33]) (by kernel_rfl) (by simp) (AllReadyH.cons rfl (fun K hK => ?_) AllReadyH.nil)
 go_simp
 have P3 := P2.alloc (.cells #[.pointer (some ⟨gp, 9, none⟩), .pointer (some ⟨gp, 10, none⟩), .pointer (some ⟨gp, 11, none⟩), .pointer (some ⟨gp, 12, none⟩)] 208)
 have Q1 := G.At.made W10 208 #[.pointer (some ⟨gp, 9, none⟩), .pointer (some ⟨gp, 10, none⟩), .pointer (some ⟨gp, 11, none⟩), .pointer (some ⟨gp, 12, none⟩)]
 have e1a : W10.heap.size ≠ g := by have := P2.rd.inside; omega
 have e1b : W10.heap.size ≠ gp := by have := P2.plan.inside; omega
 refine hK.out _ _ trivial (fun hS => ?_)
 clear hS hK K
 generalize W10.alloc (.cells #[.pointer (some ⟨gp, 9, none⟩), .pointer (some ⟨gp, 10, none⟩), .pointer (some ⟨gp, 11, none⟩), .pointer (some ⟨gp, 12, none⟩)] 208) = V1 at P3 Q1 ⊢
 generalize W10.heap.size = b1 at Q1 e1a e1b ⊢
 refine wpAnyH_ready (rs := [34]) (by kernel_rfl) (by simp) (AllReadyH.cons rfl (fun K hK => ?_) AllReadyH.nil)
 go_simp
 refine (headRow w V1 R m g gp v 2 _ _ b1 4 (by omega) (by omega) P3 Q1 e1a e1b).mono ?_
 rintro e W11 ⟨r1, rfl, ht1, hf1⟩
 go_wp2_with fail
 refine hK.out _ _ trivial (fun hS => ?_)
 clear hS hK K
 cases r1
 ·have HF := J (show StepPost w R m g gp v 3 (.returned (.bool false)) W11 from ⟨false, rfl, (by simp), hf1⟩)
  clear ht1 hf1
  refine tq 35 (.bool false) rfl (fun W hW => ?_) trivial ?_
  ·clear hW; go_simp
  simp only [Act.put, tkS]
  refine tq 36 (.bool false) rfl (fun W hW => ?_) trivial ?_
  ·clear hW; go_simp
  simp only [Act.put, tkS]
  refine tk 37 undef rfl (.inr ⟨by rfl, rfl⟩) trivial ?_
  simp only [Act.put, tkS]
  refine tk 38 undef rfl (.inr ⟨by rfl, rfl⟩) trivial ?_
  simp only [Act.put, tkS]
  refine tk 39 undef rfl (.inr ⟨by rfl, rfl⟩) trivial ?_
  simp only [Act.put, tkS]
  refine tk 40 undef rfl (.inr ⟨by rfl, rfl⟩) trivial ?_
  simp only [Act.put, tkS]
  refine tk 41 undef rfl (.inr ⟨by rfl, rfl⟩) trivial ?_
  simp only [Act.put, tkS]
  refine tk 42 undef rfl (.inr ⟨by rfl, rfl⟩) trivial ?_
  simp only [Act.put, tkS]
  refine tk 43 undef rfl (.inr ⟨by rfl, rfl⟩) trivial ?_
  simp only [Act.put, tkS]
  refine tk 44 undef rfl (.inr ⟨by rfl, rfl⟩) trivial ?_
  simp only [Act.put, tkS]
  refine tk 45 undef rfl (.inr ⟨by rfl, rfl⟩) trivial ?_
  simp only [Act.put, tkS]
  refine tk 46 undef rfl (.inr ⟨by rfl, rfl⟩) trivial ?_
  simp only [Act.put, tkS]
  refine tk 47 undef rfl (.inr ⟨by rfl, rfl⟩) trivial ?_
  simp only [Act.put, tkS]
  refine tk 48 undef rfl (.inr ⟨by rfl, rfl⟩) trivial ?_
  simp only [Act.put, tkS]
  refine tk 49 undef rfl (.inr ⟨by rfl, rfl⟩) trivial ?_
  simp only [Act.put, tkS]
  refine tk 50 undef rfl (.inr ⟨by rfl, rfl⟩) trivial ?_
  simp only [Act.put, tkS]
  refine tk 51 undef rfl (.inr ⟨by rfl, rfl⟩) trivial ?_
  simp only [Act.put, tkS]
  refine tk 52 undef rfl (.inr ⟨by rfl, rfl⟩) trivial ?_
  simp only [Act.put, tkS]
  refine tk 53 undef rfl (.inr ⟨by rfl, rfl⟩) trivial ?_
  simp only [Act.put, tkS]
  refine tk 54 undef rfl (.inr ⟨by rfl, rfl⟩) trivial ?_
  simp only [Act.put, tkS]
  refine tk 55 undef rfl (.inr ⟨by rfl, rfl⟩) trivial ?_
  simp only [Act.put, tkS]
  refine tq 56 (.bool false) rfl (fun W hW => ?_) trivial ?_
  ·clear hW; go_simp
  simp only [Act.put, tkS]
  refine tq 57 (.bool false) rfl (fun W hW => ?_) trivial ?_
  ·clear hW; go_simp
  simp only [Act.put, tkS]
  refine wpAnyH_done (by kernel_rfl) ?_ _
  go_wp2_with fail
  go_ret
  exact HF.u
 obtain ⟨pl3, rest3, P4⟩ := ht1 rfl
 clear hf1
 refine tq 35 (.bool true) rfl (fun W hW => ?_) trivial ?_
 ·clear hW; go_simp
 simp only [Act.put, tkS]
 refine tq 36 (.bool true) rfl (fun W hW => ?_) trivial ?_
 ·clear hW; go_simp
 simp only [Act.put, tkS]
 refine tq 37 (.pointer (some ⟨g, 0, none⟩)) rfl (fun W hW => ?_) trivial ?_
 ·clear hW; go_simp
 simp only [Act.put, tkS]
 refine tq 38 (.pointer (some ⟨gp, 0, none⟩)) rfl (fun W hW => ?_) trivial ?_
 ·clear hW; go_simp
 simp only [Act.put, tkS]
 refine tq 39 (.pointer (some ⟨gp, 0, none⟩)) rfl (fun W hW => ?_) trivial ?_
 ·clear hW; go_simp
 simp only [Act.put, tkS]
 refine tq 40 (.pointer (some ⟨gp, 13, none⟩)) rfl (fun W hW => ?_) trivial ?_
 ·clear hW; go_simp
 simp only [Act.put, tkS]
 refine tq 41 (.pointer (some ⟨gp, 13, none⟩)) rfl (fun W hW => ?_) trivial ?_
 ·clear hW; go_simp
 simp only [Act.put, tkS]
 refine tq 42 (.pointer (some ⟨gp, 0, none⟩)) rfl (fun W hW => ?_) trivial ?_
 ·clear hW; go_simp
 simp only [Act.put, tkS]
 refine tq 43 (.pointer (some ⟨gp, 0, none⟩)) rfl (fun W hW => ?_) trivial ?_
 ·clear hW; go_simp
 simp only [Act.put, tkS]
 refine tq 44 (.pointer (some ⟨gp, 13, none⟩)) rfl (fun W hW => ?_) trivial ?_
 ·clear hW; go_simp
 simp only [Act.put, tkS]
 refine tq 45 (.pointer (some ⟨gp, 14, none⟩)) rfl (fun W hW => ?_) trivial ?_
 ·clear hW; go_simp
 simp only [Act.put, tkS]
 refine tq 46 (.pointer (some ⟨gp, 0, none⟩)) rfl (fun W hW => ?_) trivial ?_
 ·clear hW; go_simp
 simp only [Act.put, tkS]
 refine tq 47 (.pointer (some ⟨gp, 0, none⟩)) rfl (fun W hW => ?_) trivial ?_
 ·clear hW; go_simp
 simp only [Act.put, tkS]
 refine tq 48 (.pointer (some ⟨gp, 13, none⟩)) rfl (fun W hW => ?_) trivial ?_
 ·clear hW; go_simp
 simp only [Act.put, tkS]
 refine tq 49 (.pointer (some ⟨gp, 15, none⟩)) rfl (fun W hW => ?_) trivial ?_
 ·clear hW; go_simp
 simp only [Act.put, tkS]
 refine tq 50 (.pointer (some ⟨gp, 0, none⟩)) rfl (fun W hW => ?_) trivial ?_
 ·clear hW; go_simp
 simp only [Act.put, tkS]
 refine tq 51 (.pointer (some ⟨gp, 0, none⟩)) rfl (fun W hW => ?_) trivial ?_
 ·clear hW; go_simp
 simp only [Act.put, tkS]
 refine tq 52 (.pointer (some ⟨gp, 13, none⟩)) rfl (fun W hW => ?_) trivial ?_
 ·clear hW; go_simp
 simp only [Act.put, tkS]
 refine tq 53 (.pointer (some ⟨gp, 16, none⟩)) rfl (fun W hW => ?_) trivial ?_
 ·clear hW; go_simp
 simp only [Act.put, tkS]
 refine wpAnyH_ready (rs := [54]) (by kernel_rfl) (by simp) (AllReadyH.cons rfl (fun K hK => ?_) AllReadyH.nil)
 go_simp
 have P5 := P4.alloc (.cells #[.pointer (some ⟨gp, 13, none⟩), .pointer (some ⟨gp, 14, none⟩), .pointer (some ⟨gp, 15, none⟩), .pointer (some ⟨gp, 16, none⟩)] 208)
 have Q2 := G.At.made W11 208 #[.pointer (some ⟨gp, 13, none⟩), .pointer (some ⟨gp, 14, none⟩), .pointer (some ⟨gp, 15, none⟩), .pointer (some ⟨gp, 16, none⟩)]
 have e2a : W11.heap.size ≠ g := by have := P4.rd.inside; omega
 have e2b : W11.heap.size ≠ gp := by have := P4.plan.inside; omega
 refine hK.out _ _ trivial (fun hS => ?_)
 clear hS hK K
 generalize W11.alloc (.cells #[.pointer (some ⟨gp, 13, none⟩), .pointer (some ⟨gp, 14, none⟩), .pointer (some ⟨gp, 15, none⟩), .pointer (some ⟨gp, 16, none⟩)] 208) = V2 at P5 Q2 ⊢
 generalize W11.heap.size = b2 at Q2 e2a e2b ⊢
 refine wpAnyH_ready (rs := [55]) (by kernel_rfl) (by simp) (AllReadyH.cons rfl (fun K hK => ?_) AllReadyH.nil)
 go_simp
 refine (headRow w V2 R m g gp v 3 _ _ b2 4 (by omega) (by omega) P5 Q2 e2a e2b).mono ?_
 rintro e W12 ⟨r2, rfl, ht2, hf2⟩
 go_wp2_with fail
 refine hK.out _ _ trivial (fun hS => ?_)
 clear hS hK K
 cases r2
 ·have HF := J (show StepPost w R m g gp v 3 (.returned (.bool false)) W12 from ⟨false, rfl, (by simp), hf2⟩)
  clear ht2 hf2
  refine tq 56 (.bool false) rfl (fun W hW => ?_) trivial ?_
  ·clear hW; go_simp
  simp only [Act.put, tkS]
  refine tq 57 (.bool false) rfl (fun W hW => ?_) trivial ?_
  ·clear hW; go_simp
  simp only [Act.put, tkS]
  refine wpAnyH_done (by kernel_rfl) ?_ _
  go_wp2_with fail
  go_ret
  exact HF.u
 have HF := J (show StepPost w R m g gp v 3 (.returned (.bool true)) W12 from ⟨true, rfl, ht2, (by simp)⟩)
 clear ht2 hf2
 refine tq 56 (.bool true) rfl (fun W hW => ?_) trivial ?_
 ·clear hW; go_simp
 simp only [Act.put, tkS]
 refine tq 57 (.bool true) rfl (fun W hW => ?_) trivial ?_
 ·clear hW; go_simp
 simp only [Act.put, tkS]
 refine wpAnyH_done (by kernel_rfl) ?_ _
 go_wp2_with fail
 go_ret
 exact HF.u
end Go.Proofs.YtoidcbpcnikejaaGreatDoor
