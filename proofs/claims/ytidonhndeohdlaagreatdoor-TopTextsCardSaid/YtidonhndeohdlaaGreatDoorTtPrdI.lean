/- The contract of (*reader).head. -/
import Derived.Deep.RegionHeld3
import Derived.RegionTactic
import Derived.Test.YtidonhndeohdlaaGreatDoorTk
import Derived.Test.YtidonhndeohdlaaGreatDoorTt15
set_option linter.unusedVariables false
set_option linter.unusedSimpArgs false
namespace Go.Proofs.YtidonhndeohdlaaGreatDoor
open Go.RowKit
structure HeadMid (w wx : World) (s : ByteArray) (g gp bw : Nat) (p : Pln) (v : Value) : Prop where
  words : WdsAt wx bw 0 (wordsOf s)
  rd : Tide.At wx g 70 #[.string (Tide.cutY 10 s), .int .i64 (0 + 1)]
  chg : Tide.Chg (fun b => b = g ∨ b = gp) w wx
  fine : (Tide.cutZ 10 s && headOk (wordsOf s)) = true → Tide.At wx gp 26 (setK (plnC p v) [1, 2, 3, 4] ((wordsOf s).drop 2) 4)
theorem HeadMid.below {w wx wy : World} {s : ByteArray} {g gp bw : Nat} {p : Pln} {v : Value} (h : HeadMid w wx s g gp bw p v) (hb : Below wx.heap.size wx wy) : HeadMid w wy s g gp bw p v :=
  ⟨h.words.below hb, h.rd.below hb h.rd.inside, h.chg.step_below hb h.chg.size, fun q => (h.fine q).below hb (h.fine q).inside⟩
theorem head_ill {p : Pln} {ws : List ByteArray} (h : headOk ws = false) : lineN 0 p ws = none := if_neg (by rw [h]; simp)
theorem headOk_word {ws : List ByteArray} (h : Tide.pieceAt ws 0 ≠ wdPlan) : headOk ws = false := by unfold headOk; rw [decide_eq_false h]; rfl
theorem headOk_many {ws : List ByteArray} (h : ws.length ≠ 6) : headOk ws = false := by unfold headOk; rw [decide_eq_false h]; simp
theorem headOk_name {ws : List ByteArray} (h : nameOk (Tide.pieceAt ws 1) = false) : headOk ws = false := by unfold headOk; rw [h]; simp
theorem headOk_is {ws : List ByteArray} (h0 : Tide.pieceAt ws 0 = wdPlan) (h1 : ws.length = 6) (h2 : nameOk (Tide.pieceAt ws 1) = true) : headOk ws = wordsOk (ws.drop 2) 4 := by unfold headOk; rw [decide_eq_true h0, decide_eq_true h1, h2]; rfl
set_option maxRecDepth 100000 in
set_option maxHeartbeats 12800000 in
theorem readerHead (w : World) (R : Option Pln × Nat) (m : Int) (g gp : Nat) (v : Value) (pl : Pln) (s : ByteArray) (h : HdS w w R m g gp v 0 pl s) :
    Calls Tryz.prog 21 #[.pointer (some ⟨g, 0, none⟩), .pointer (some ⟨gp, 0, none⟩)] w (StepPost w R m g gp v 3) := by
  obtain ⟨l0, l1, l2⟩ := words_len s h.size
  have HW := Lib.hid l2
  have HLn := Lib.hid (readerLine g s 0 m w h.rd h.size (by omega) (by omega) h.mx h.ne.2.1)
  have HH := Lib.hid h
  obtain ⟨x, hx⟩ := Tide.get_some (wordsOf s) (show 0 < (wordsOf s).length by omega)
  have hpx := Tide.pieceAt_get hx
  have HX := Lib.hid hx
  have HPx := Lib.hid hpx
  obtain ⟨ok, hok⟩ : ∃ ok, (Tide.cutZ 10 s && headOk (wordsOf s)) = ok := ⟨_, rfl⟩
  have HOk := Lib.hid hok
  obtain ⟨n, hn⟩ : ∃ n, (wordsOf s).length = n := ⟨_, rfl⟩
  have HN := Lib.hid hn
  obtain ⟨z, hz⟩ : ∃ z, Tide.cutZ 10 s = z := ⟨_, rfl⟩
  have HZ := Lib.hid hz
  unfold LinePost at HLn
  rw [hn, hz] at HLn
  rw [hn] at l0 l1
  have i1 : (n : Int) ≤ 1000001 := by omega
  have i2 : (0 : Int) < (n : Int) := by omega
  clear h l2 hx hpx hok hn hz
  go_enter Tryz.func21, Tryz.ntmps21
  go_wp2_with fail
  refine HLn.out.mono ?_
  rintro e w1 ⟨bw, rfl, hw1, hbw, hr1, hc1⟩
  have hgpl := HH.out.plan.inside
  have hgl := HH.out.rd.inside
  have HG1 := Lib.hid (HH.out.plan.chg hc1 HH.out.ne.1)
  have H1 := Lib.hid (show ok = false → HeadMid w w1 s g gp bw pl v from fun hf => ⟨hw1, hr1, hc1.mono (fun b _ hb => (Or.inl hb : b = g ∨ b = gp)), fun q => by rw [HOk.out, hf] at q; cases q⟩)
  have HW1 := Lib.hid hw1
  have HR1 := Lib.hid hr1
  have HC1 := Lib.hid (hc1.mono (fun b _ hb => (Or.inl hb : b = g ∨ b = gp)))
  have c0 : w1.cell? ⟨bw, 0, none⟩ = some (.string x) := hw1.cell 0 x HX.out
  have nbp : bw ≠ gp := by omega
  clear hw1 hr1 hc1 HLn
  go_upto_region 2 with fail
  go_cut [50] (fun y wx => y = .bool (!ok) ∧ Hid (HeadMid w wx s g gp bw pl v))
  case first =>
    have HDn := Lib.hid (fun (hf : ok = false) k => (H1.out hf).below (below_drewN (Below.refl _ _) k))
    cases z
    · have hf : ok = false := by rw [← HOk.out, HZ.out]; rfl
      have HD := Lib.hid (HDn.out hf)
      subst hf
      clear HDn
      go_quiet (fail)
      go_wp2_with fail
      go_meet
      exact ⟨rfl, Lib.hid (HD.out _)⟩
    · by_cases hxw : x = wdPlan
      · have e1 : (x.toList == [112, 108, 97, 110]) = true := by subst hxw; rw [ByteArray.toList_eq]; rfl
        by_cases h6 : n = 6
        · subst h6
          obtain ⟨y, hy⟩ := Tide.get_some (wordsOf s) (show 1 < (wordsOf s).length by rw [HN.out]; decide)
          have hpy := Tide.pieceAt_get hy
          have HY := Lib.hid hy
          have hys := HW.out y (List.mem_of_getElem? hy)
          have HNm := Lib.hid (fun (W : World) => (planNamed y (by omega) W))
          have c1 : w1.cell? ⟨bw, 1, none⟩ = some (.string y) := HW1.out.cell 1 y hy
          cases hq : nameOk y
          · have hf : ok = false := by rw [← HOk.out, headOk_name (by rw [hpy]; exact hq), Bool.and_false]
            have HD := Lib.hid (HDn.out hf)
            rw [hq] at HNm
            have HNq := Lib.hid (fun (W : World) => ((HNm.out W).mono (fun _ _ q => ⟨q.1, q.2.symm⟩) : Calls Tryz.prog 44 #[.string y] W fun e w' => e = .returned (.bool false) ∧ w' = W))
            subst hf
            clear HDn hq hy hpy hxw l0 l1
            go_quiet ((go_at_call 44; exact Calls.quiet_of_same (HNq.out _)))
            go_wp2_with fail
            go_meet
            exact ⟨rfl, Lib.hid (HD.out _)⟩
          · have HOk2 := Lib.hid (show wordsOk ((wordsOf s).drop 2) 4 = ok by rw [← HOk.out, HZ.out, headOk_is (by rw [HPx.out]; exact hxw) HN.out (by rw [hpy]; exact hq), Bool.true_and])
            rw [hq] at HNm
            have HRd := Lib.hid (fun (W : World) (bt : Nat) (hb : Below w1.heap.size w1 W) (hbt : w1.heap.size ≤ bt) (hp : Tide.At W bt 114 (ptrs gp [1, 2, 3, 4])) => (by
              have := planRead ((wordsOf s).drop 2) [1, 2, 3, 4] bw 2 4 bt 4 gp 26 (plnC pl v) W (by have := (HW1.out.below hb).drop 2; rwa [Nat.zero_add] at this) hp (HG1.out.below hb HG1.out.inside) (by intro o ho; show o < 18; revert o; decide) nbp (by have := HG1.out.inside; omega) (fun z hz => HW.out z (List.mem_of_mem_drop hz)) (by decide) (by rw [List.length_drop, HN.out]; decide)
              rw [List.length_drop, HN.out] at this
              exact this : Calls Tryz.prog 54 #[.slice (some ⟨bw, 2, none⟩) 4 4, .slice (some ⟨bt, 0, none⟩) 4 4] W (NumsPost W gp 26 (plnC pl v) [1, 2, 3, 4] ((wordsOf s).drop 2))))
            have HE := Lib.hid (fun (W W2 : World) (k : Nat) (hb : Below w1.heap.size w1 W) (hat : Tide.At W2 gp 26 (setK (plnC pl v) [1, 2, 3, 4] ((wordsOf s).drop 2) k)) (hkk : ok = true → k = 4) (hc : Tide.Chg (fun b => b = gp) W W2) => (show HeadMid w W2 s g gp bw pl v from
              ⟨(HW1.out.below hb).chg hc nbp, (HR1.out.below hb HR1.out.inside).chg hc (fun e => HH.out.ne.1 e.symm), (HC1.out.step_below hb HC1.out.size).trans (hc.mono fun b _ hb => Or.inr hb), fun q => by rw [HOk.out] at q; have := hkk q; subst this; exact hat⟩))
            clear HDn hq hy hpy hxw l0 l1 H1 HG1
            go_region_held3 (fun w' => w'.cell? ⟨bw, 0, none⟩ = some (.string x) ∧ w'.cell? ⟨bw, 1, none⟩ = some (.string y)) (first | exact ⟨c0, c1⟩ | exact ⟨d0, d1⟩ | go_keep) (first | (go_at_call 44; refine (HNm.out _).mono ?_; rintro e w2 ⟨rfl, rfl⟩) | (go_at_call 54; refine (HRd.out (w1.drew.alloc (.cells #[.pointer (some ⟨gp, 1, none⟩), .pointer (some ⟨gp, 2, none⟩), .pointer (some ⟨gp, 3, none⟩), .pointer (some ⟨gp, 4, none⟩)] 114)) w1.drew.heap.size ((Below.refl _ _).drew.alloc (Nat.le_refl _) _) (Nat.le_refl _) (Tide.At.made _ _ _)).mono ?_; rintro e w2 ⟨rfl, ⟨k, hk, hat, hkk⟩, hc2⟩; have HM := Lib.hid (HE.out _ w2 k ((Below.refl _ _).drew.alloc (Nat.le_refl _) _) hat (by rw [← HOk2.out]; exact hkk) hc2); rw [show wordsOk ((wordsOf s).drop 2) ([1, 2, 3, 4] : List Nat).length = ok from HOk2.out]; have d0 := (HM.out.words).cell 0 x HX.out; have d1 : w2.cell? ⟨bw, 1, none⟩ = some (.string y) := (HM.out.words).cell 1 y HY.out))
            all_goals
              go_wp2_with fail
              go_meet
              exact ⟨by cases ok <;> rfl, HM⟩
        · have hf : ok = false := by rw [← HOk.out, headOk_many (by rw [HN.out]; exact h6), Bool.and_false]
          have HD := Lib.hid (HDn.out hf)
          have h6b : ((n : Int) != 6) = true := by simp; omega
          subst hf
          clear HDn h6 hxw l0 l1
          go_quiet (fail)
          go_wp2_with fail
          go_meet
          exact ⟨rfl, Lib.hid (HD.out _)⟩
      · have e1 : (x.toList == [112, 108, 97, 110]) = false := by
          have := same_words x wdPlan
          rw [decide_eq_false hxw, show wdPlan.toList = [112, 108, 97, 110] by rw [ByteArray.toList_eq]; rfl] at this
          exact this
        have hf : ok = false := by rw [← HOk.out, headOk_word (by rw [HPx.out]; exact hxw), Bool.and_false]
        have HD := Lib.hid (HDn.out hf)
        subst hf
        clear HDn hxw l0 l1
        go_quiet (fail)
        go_wp2_with fail
        go_meet
        exact ⟨rfl, Lib.hid (HD.out _)⟩
  case rest =>
    obtain ⟨rfl, HM⟩ := hcut
    clear c0 HR1 HC1 HW1 H1
    rename World => W2
    cases ok
    · have HF := Lib.hid (show StepPost w R m g gp v 3 (.returned (.bool false)) W2 from ⟨false, rfl, (by simp), fun _ => ⟨1, _, by
        cases hz : Tide.cutZ 10 s
        · exact HH.out.reads.cut (.inl (by omega)) hz
        · have := HOk.out
          rw [hz, Bool.true_and] at this
          exact HH.out.reads.bad (.inl (by omega)) hz (head_ill this), HM.out.rd, HM.out.chg⟩⟩)
      go_wp2_with fail
      go_ret
      exact HF.out
    · have hok := HOk.out
      rw [Bool.and_eq_true] at hok
      obtain ⟨pl1, q1, q2, q3⟩ := head_row0 (p := pl) (v := v) hok.2
      have hn6 : n = 6 := by
        have := hok.2
        unfold headOk at this
        simp only [Bool.and_eq_true, decide_eq_true_eq] at this
        exact HN.out.symm.trans this.2.1
      subst hn6
      obtain ⟨y, hy⟩ := Tide.get_some (wordsOf s) (show 1 < (wordsOf s).length by rw [HN.out]; decide)
      have c1 : W2.cell? ⟨bw, 1, none⟩ = some (.string y) := HM.out.words.cell 1 y hy
      have hfin := HM.out.fine HOk.out
      have d0 : W2.cell? ⟨gp, 0, none⟩ = some (.string pl.name) := hfin.here (by simp only [setK]; rfl)
      have p0 := hfin.soft 0
      have H3 := Lib.hid (show HdS w (W2.setCell ⟨gp, 0, none⟩ (.string y)) R m g gp v 1 pl1 (Tide.cutY 10 s) from by
        have hat := hfin.put 0 (.string y)
        rw [← Tide.pieceAt_get hy, q3] at hat
        have hch := HM.out.chg.put (p := ⟨gp, 0, none⟩) (.inl (.inr rfl)) (.string y)
        rw [← Tide.pieceAt_get hy]
        rw [← Tide.pieceAt_get hy] at hch
        refine ⟨HH.out.reads.next (.inl (by omega)) hok.1 q1, hat, HM.out.rd.other (fun e => HH.out.ne.1 e.symm) _, ?_, hch, q2.trans HH.out.trigs, Nat.le_trans (Tide.cutY_size 10 s) HH.out.size, by omega, HH.out.ne, Nat.le_trans (Tide.cutY_size 10 s) HH.out.sz⟩
        exact (chg_cell hch (World.block_lt_of_cell? _ _ HH.out.mx) (fun hb => hb.elim HH.out.ne.2.1 HH.out.ne.2.2) 0).trans HH.out.mx)
      clear hfin hok q1 q2 q3 hy l0 l1
      as_aux_lemma =>
      go_upto_region 5 with fail
      clear c1 d0 p0
      generalize W2.setCell ⟨gp, 0, none⟩ (.string y) = W3 at H3 ⊢
      clear HM HH HOk
      refine wp_region_held_drew (S := fun _ => True) (by kernel_rfl) trivial (fun hS => ?_)
      clear hS
      change wpAnyH _ _ _ _ _ 58 #[false, false, false, false, false, false, false, false, false, false, false, false, false, false, false, false, false, false, false, false, false, false, false, false, false, false, false, false, false, false, false, false, false, false, false, false, false, false, false, false, false, false, false, false, false, false, false, false, false, false, false, false, false, false, false, false, false, false] _ (World.drew _)
      have P0 := H3.out.drew
      generalize W3.drew = W0 at P0 ⊢
      refine tk 0 (.pointer (some ⟨g, 0, none⟩)) rfl (.inl ⟨by rfl, fun W hW => ?_⟩) trivial ?_
      · clear hW; go_simp
      simp only [Act.put, tkA, tkB, tkC, tkD, tkE, tkF]
      refine tk 1 (.pointer (some ⟨gp, 0, none⟩)) rfl (.inl ⟨by rfl, fun W hW => ?_⟩) trivial ?_
      · clear hW; go_simp
      simp only [Act.put, tkA, tkB, tkC, tkD, tkE, tkF]
      refine tk 2 (.pointer (some ⟨gp, 0, none⟩)) rfl (.inl ⟨by rfl, fun W hW => ?_⟩) trivial ?_
      · clear hW; go_simp
      simp only [Act.put, tkA, tkB, tkC, tkD, tkE, tkF]
      refine tk 3 (.pointer (some ⟨gp, 5, none⟩)) rfl (.inl ⟨by rfl, fun W hW => ?_⟩) trivial ?_
      · clear hW; go_simp
      simp only [Act.put, tkA, tkB, tkC, tkD, tkE, tkF]
      refine tk 4 (.pointer (some ⟨gp, 0, none⟩)) rfl (.inl ⟨by rfl, fun W hW => ?_⟩) trivial ?_
      · clear hW; go_simp
      simp only [Act.put, tkA, tkB, tkC, tkD, tkE, tkF]
      refine tk 5 (.pointer (some ⟨gp, 0, none⟩)) rfl (.inl ⟨by rfl, fun W hW => ?_⟩) trivial ?_
      · clear hW; go_simp
      simp only [Act.put, tkA, tkB, tkC, tkD, tkE, tkF]
      refine tk 6 (.pointer (some ⟨gp, 6, none⟩)) rfl (.inl ⟨by rfl, fun W hW => ?_⟩) trivial ?_
      · clear hW; go_simp
      simp only [Act.put, tkA, tkB, tkC, tkD, tkE, tkF]
      refine tk 7 (.pointer (some ⟨gp, 0, none⟩)) rfl (.inl ⟨by rfl, fun W hW => ?_⟩) trivial ?_
      · clear hW; go_simp
      simp only [Act.put, tkA, tkB, tkC, tkD, tkE, tkF]
      refine tk 8 (.pointer (some ⟨gp, 0, none⟩)) rfl (.inl ⟨by rfl, fun W hW => ?_⟩) trivial ?_
      · clear hW; go_simp
      simp only [Act.put, tkA, tkB, tkC, tkD, tkE, tkF]
      refine tk 9 (.pointer (some ⟨gp, 7, none⟩)) rfl (.inl ⟨by rfl, fun W hW => ?_⟩) trivial ?_
      · clear hW; go_simp
      simp only [Act.put, tkA, tkB, tkC, tkD, tkE, tkF]
      refine tk 10 (.pointer (some ⟨gp, 0, none⟩)) rfl (.inl ⟨by rfl, fun W hW => ?_⟩) trivial ?_
      · clear hW; go_simp
      simp only [Act.put, tkA, tkB, tkC, tkD, tkE, tkF]
      refine tk 11 (.pointer (some ⟨gp, 0, none⟩)) rfl (.inl ⟨by rfl, fun W hW => ?_⟩) trivial ?_
      · clear hW; go_simp
      simp only [Act.put, tkA, tkB, tkC, tkD, tkE, tkF]
      refine tk 12 (.pointer (some ⟨gp, 8, none⟩)) rfl (.inl ⟨by rfl, fun W hW => ?_⟩) trivial ?_
      · clear hW; go_simp
      simp only [Act.put, tkA, tkB, tkC, tkD, tkE, tkF]
      refine wpAnyH_ready (rs := [13]) (by kernel_rfl) (by simp) (AllReadyH.cons rfl (fun K hK => ?_) AllReadyH.nil)
      go_simp
      have P1 := P0.alloc (.cells #[.pointer (some ⟨gp, 5, none⟩), .pointer (some ⟨gp, 6, none⟩), .pointer (some ⟨gp, 7, none⟩), .pointer (some ⟨gp, 8, none⟩)] 114)
      have Q0 := Tide.At.made W0 114 #[.pointer (some ⟨gp, 5, none⟩), .pointer (some ⟨gp, 6, none⟩), .pointer (some ⟨gp, 7, none⟩), .pointer (some ⟨gp, 8, none⟩)]
      have e0a : W0.heap.size ≠ g := by have := P0.rd.inside; omega
      have e0b : W0.heap.size ≠ gp := by have := P0.plan.inside; omega
      refine hK.out _ _ trivial (fun hS => ?_)
      clear hS hK K
      generalize W0.alloc (.cells #[.pointer (some ⟨gp, 5, none⟩), .pointer (some ⟨gp, 6, none⟩), .pointer (some ⟨gp, 7, none⟩), .pointer (some ⟨gp, 8, none⟩)] 114) = V0 at P1 Q0 ⊢
      generalize W0.heap.size = b0 at Q0 e0a e0b ⊢
      refine wpAnyH_ready (rs := [14]) (by kernel_rfl) (by simp) (AllReadyH.cons rfl (fun K hK => ?_) AllReadyH.nil)
      go_simp
      refine (headRow w V0 R m g gp v 1 _ _ b0 4 (by omega) (by omega) P1 Q0 e0a e0b).mono ?_
      rintro e W10 ⟨r0, rfl, ht0, hf0⟩
      go_wp2_with fail
      refine hK.out _ _ trivial (fun hS => ?_)
      clear hS hK K
      cases r0
      · have HF := Lib.hid (show StepPost w R m g gp v 3 (.returned (.bool false)) W10 from ⟨false, rfl, (by simp), hf0⟩)
        clear ht0 hf0
        refine tk 15 (.bool false) rfl (.inl ⟨by rfl, fun W hW => ?_⟩) trivial ?_
        · clear hW; go_simp
        simp only [Act.put, tkA, tkB, tkC, tkD, tkE, tkF]
        refine tk 16 undef rfl (.inr ⟨by rfl, rfl⟩) trivial ?_
        simp only [Act.put, tkA, tkB, tkC, tkD, tkE, tkF]
        refine tk 17 undef rfl (.inr ⟨by rfl, rfl⟩) trivial ?_
        simp only [Act.put, tkA, tkB, tkC, tkD, tkE, tkF]
        refine tk 18 undef rfl (.inr ⟨by rfl, rfl⟩) trivial ?_
        simp only [Act.put, tkA, tkB, tkC, tkD, tkE, tkF]
        refine tk 19 undef rfl (.inr ⟨by rfl, rfl⟩) trivial ?_
        simp only [Act.put, tkA, tkB, tkC, tkD, tkE, tkF]
        refine tk 20 undef rfl (.inr ⟨by rfl, rfl⟩) trivial ?_
        simp only [Act.put, tkA, tkB, tkC, tkD, tkE, tkF]
        refine tk 21 undef rfl (.inr ⟨by rfl, rfl⟩) trivial ?_
        simp only [Act.put, tkA, tkB, tkC, tkD, tkE, tkF]
        refine tk 22 undef rfl (.inr ⟨by rfl, rfl⟩) trivial ?_
        simp only [Act.put, tkA, tkB, tkC, tkD, tkE, tkF]
        refine tk 23 undef rfl (.inr ⟨by rfl, rfl⟩) trivial ?_
        simp only [Act.put, tkA, tkB, tkC, tkD, tkE, tkF]
        refine tk 24 undef rfl (.inr ⟨by rfl, rfl⟩) trivial ?_
        simp only [Act.put, tkA, tkB, tkC, tkD, tkE, tkF]
        refine tk 25 undef rfl (.inr ⟨by rfl, rfl⟩) trivial ?_
        simp only [Act.put, tkA, tkB, tkC, tkD, tkE, tkF]
        refine tk 26 undef rfl (.inr ⟨by rfl, rfl⟩) trivial ?_
        simp only [Act.put, tkA, tkB, tkC, tkD, tkE, tkF]
        refine tk 27 undef rfl (.inr ⟨by rfl, rfl⟩) trivial ?_
        simp only [Act.put, tkA, tkB, tkC, tkD, tkE, tkF]
        refine tk 28 undef rfl (.inr ⟨by rfl, rfl⟩) trivial ?_
        simp only [Act.put, tkA, tkB, tkC, tkD, tkE, tkF]
        refine tk 29 undef rfl (.inr ⟨by rfl, rfl⟩) trivial ?_
        simp only [Act.put, tkA, tkB, tkC, tkD, tkE, tkF]
        refine tk 30 undef rfl (.inr ⟨by rfl, rfl⟩) trivial ?_
        simp only [Act.put, tkA, tkB, tkC, tkD, tkE, tkF]
        refine tk 31 undef rfl (.inr ⟨by rfl, rfl⟩) trivial ?_
        simp only [Act.put, tkA, tkB, tkC, tkD, tkE, tkF]
        refine tk 32 undef rfl (.inr ⟨by rfl, rfl⟩) trivial ?_
        simp only [Act.put, tkA, tkB, tkC, tkD, tkE, tkF]
        refine tk 33 undef rfl (.inr ⟨by rfl, rfl⟩) trivial ?_
        simp only [Act.put, tkA, tkB, tkC, tkD, tkE, tkF]
        refine tk 34 undef rfl (.inr ⟨by rfl, rfl⟩) trivial ?_
        simp only [Act.put, tkA, tkB, tkC, tkD, tkE, tkF]
        refine tk 35 (.bool false) rfl (.inl ⟨by rfl, fun W hW => ?_⟩) trivial ?_
        · clear hW; go_simp
        simp only [Act.put, tkA, tkB, tkC, tkD, tkE, tkF]
        refine tk 36 (.bool false) rfl (.inl ⟨by rfl, fun W hW => ?_⟩) trivial ?_
        · clear hW; go_simp
        simp only [Act.put, tkA, tkB, tkC, tkD, tkE, tkF]
        refine tk 37 undef rfl (.inr ⟨by rfl, rfl⟩) trivial ?_
        simp only [Act.put, tkA, tkB, tkC, tkD, tkE, tkF]
        refine tk 38 undef rfl (.inr ⟨by rfl, rfl⟩) trivial ?_
        simp only [Act.put, tkA, tkB, tkC, tkD, tkE, tkF]
        refine tk 39 undef rfl (.inr ⟨by rfl, rfl⟩) trivial ?_
        simp only [Act.put, tkA, tkB, tkC, tkD, tkE, tkF]
        refine tk 40 undef rfl (.inr ⟨by rfl, rfl⟩) trivial ?_
        simp only [Act.put, tkA, tkB, tkC, tkD, tkE, tkF]
        refine tk 41 undef rfl (.inr ⟨by rfl, rfl⟩) trivial ?_
        simp only [Act.put, tkA, tkB, tkC, tkD, tkE, tkF]
        refine tk 42 undef rfl (.inr ⟨by rfl, rfl⟩) trivial ?_
        simp only [Act.put, tkA, tkB, tkC, tkD, tkE, tkF]
        refine tk 43 undef rfl (.inr ⟨by rfl, rfl⟩) trivial ?_
        simp only [Act.put, tkA, tkB, tkC, tkD, tkE, tkF]
        refine tk 44 undef rfl (.inr ⟨by rfl, rfl⟩) trivial ?_
        simp only [Act.put, tkA, tkB, tkC, tkD, tkE, tkF]
        refine tk 45 undef rfl (.inr ⟨by rfl, rfl⟩) trivial ?_
        simp only [Act.put, tkA, tkB, tkC, tkD, tkE, tkF]
        refine tk 46 undef rfl (.inr ⟨by rfl, rfl⟩) trivial ?_
        simp only [Act.put, tkA, tkB, tkC, tkD, tkE, tkF]
        refine tk 47 undef rfl (.inr ⟨by rfl, rfl⟩) trivial ?_
        simp only [Act.put, tkA, tkB, tkC, tkD, tkE, tkF]
        refine tk 48 undef rfl (.inr ⟨by rfl, rfl⟩) trivial ?_
        simp only [Act.put, tkA, tkB, tkC, tkD, tkE, tkF]
        refine tk 49 undef rfl (.inr ⟨by rfl, rfl⟩) trivial ?_
        simp only [Act.put, tkA, tkB, tkC, tkD, tkE, tkF]
        refine tk 50 undef rfl (.inr ⟨by rfl, rfl⟩) trivial ?_
        simp only [Act.put, tkA, tkB, tkC, tkD, tkE, tkF]
        refine tk 51 undef rfl (.inr ⟨by rfl, rfl⟩) trivial ?_
        simp only [Act.put, tkA, tkB, tkC, tkD, tkE, tkF]
        refine tk 52 undef rfl (.inr ⟨by rfl, rfl⟩) trivial ?_
        simp only [Act.put, tkA, tkB, tkC, tkD, tkE, tkF]
        refine tk 53 undef rfl (.inr ⟨by rfl, rfl⟩) trivial ?_
        simp only [Act.put, tkA, tkB, tkC, tkD, tkE, tkF]
        refine tk 54 undef rfl (.inr ⟨by rfl, rfl⟩) trivial ?_
        simp only [Act.put, tkA, tkB, tkC, tkD, tkE, tkF]
        refine tk 55 undef rfl (.inr ⟨by rfl, rfl⟩) trivial ?_
        simp only [Act.put, tkA, tkB, tkC, tkD, tkE, tkF]
        refine tk 56 (.bool false) rfl (.inl ⟨by rfl, fun W hW => ?_⟩) trivial ?_
        · clear hW; go_simp
        simp only [Act.put, tkA, tkB, tkC, tkD, tkE, tkF]
        refine tk 57 (.bool false) rfl (.inl ⟨by rfl, fun W hW => ?_⟩) trivial ?_
        · clear hW; go_simp
        simp only [Act.put, tkA, tkB, tkC, tkD, tkE, tkF]
        refine wpAnyH_done (by kernel_rfl) ?_ _
        go_wp2_with fail
        go_ret
        exact HF.out
      · obtain ⟨pl2, rest2, P2⟩ := ht0 rfl
        clear hf0
        refine tk 15 (.bool true) rfl (.inl ⟨by rfl, fun W hW => ?_⟩) trivial ?_
        · clear hW; go_simp
        simp only [Act.put, tkA, tkB, tkC, tkD, tkE, tkF]
        refine tk 16 (.pointer (some ⟨g, 0, none⟩)) rfl (.inl ⟨by rfl, fun W hW => ?_⟩) trivial ?_
        · clear hW; go_simp
        simp only [Act.put, tkA, tkB, tkC, tkD, tkE, tkF]
        refine tk 17 (.pointer (some ⟨gp, 0, none⟩)) rfl (.inl ⟨by rfl, fun W hW => ?_⟩) trivial ?_
        · clear hW; go_simp
        simp only [Act.put, tkA, tkB, tkC, tkD, tkE, tkF]
        refine tk 18 (.pointer (some ⟨gp, 0, none⟩)) rfl (.inl ⟨by rfl, fun W hW => ?_⟩) trivial ?_
        · clear hW; go_simp
        simp only [Act.put, tkA, tkB, tkC, tkD, tkE, tkF]
        refine tk 19 (.pointer (some ⟨gp, 9, none⟩)) rfl (.inl ⟨by rfl, fun W hW => ?_⟩) trivial ?_
        · clear hW; go_simp
        simp only [Act.put, tkA, tkB, tkC, tkD, tkE, tkF]
        refine tk 20 (.pointer (some ⟨gp, 9, none⟩)) rfl (.inl ⟨by rfl, fun W hW => ?_⟩) trivial ?_
        · clear hW; go_simp
        simp only [Act.put, tkA, tkB, tkC, tkD, tkE, tkF]
        refine tk 21 (.pointer (some ⟨gp, 0, none⟩)) rfl (.inl ⟨by rfl, fun W hW => ?_⟩) trivial ?_
        · clear hW; go_simp
        simp only [Act.put, tkA, tkB, tkC, tkD, tkE, tkF]
        refine tk 22 (.pointer (some ⟨gp, 0, none⟩)) rfl (.inl ⟨by rfl, fun W hW => ?_⟩) trivial ?_
        · clear hW; go_simp
        simp only [Act.put, tkA, tkB, tkC, tkD, tkE, tkF]
        refine tk 23 (.pointer (some ⟨gp, 9, none⟩)) rfl (.inl ⟨by rfl, fun W hW => ?_⟩) trivial ?_
        · clear hW; go_simp
        simp only [Act.put, tkA, tkB, tkC, tkD, tkE, tkF]
        refine tk 24 (.pointer (some ⟨gp, 10, none⟩)) rfl (.inl ⟨by rfl, fun W hW => ?_⟩) trivial ?_
        · clear hW; go_simp
        simp only [Act.put, tkA, tkB, tkC, tkD, tkE, tkF]
        refine tk 25 (.pointer (some ⟨gp, 0, none⟩)) rfl (.inl ⟨by rfl, fun W hW => ?_⟩) trivial ?_
        · clear hW; go_simp
        simp only [Act.put, tkA, tkB, tkC, tkD, tkE, tkF]
        refine tk 26 (.pointer (some ⟨gp, 0, none⟩)) rfl (.inl ⟨by rfl, fun W hW => ?_⟩) trivial ?_
        · clear hW; go_simp
        simp only [Act.put, tkA, tkB, tkC, tkD, tkE, tkF]
        refine tk 27 (.pointer (some ⟨gp, 9, none⟩)) rfl (.inl ⟨by rfl, fun W hW => ?_⟩) trivial ?_
        · clear hW; go_simp
        simp only [Act.put, tkA, tkB, tkC, tkD, tkE, tkF]
        refine tk 28 (.pointer (some ⟨gp, 11, none⟩)) rfl (.inl ⟨by rfl, fun W hW => ?_⟩) trivial ?_
        · clear hW; go_simp
        simp only [Act.put, tkA, tkB, tkC, tkD, tkE, tkF]
        refine tk 29 (.pointer (some ⟨gp, 0, none⟩)) rfl (.inl ⟨by rfl, fun W hW => ?_⟩) trivial ?_
        · clear hW; go_simp
        simp only [Act.put, tkA, tkB, tkC, tkD, tkE, tkF]
        refine tk 30 (.pointer (some ⟨gp, 0, none⟩)) rfl (.inl ⟨by rfl, fun W hW => ?_⟩) trivial ?_
        · clear hW; go_simp
        simp only [Act.put, tkA, tkB, tkC, tkD, tkE, tkF]
        refine tk 31 (.pointer (some ⟨gp, 9, none⟩)) rfl (.inl ⟨by rfl, fun W hW => ?_⟩) trivial ?_
        · clear hW; go_simp
        simp only [Act.put, tkA, tkB, tkC, tkD, tkE, tkF]
        refine tk 32 (.pointer (some ⟨gp, 12, none⟩)) rfl (.inl ⟨by rfl, fun W hW => ?_⟩) trivial ?_
        · clear hW; go_simp
        simp only [Act.put, tkA, tkB, tkC, tkD, tkE, tkF]
        refine wpAnyH_ready (rs := [33]) (by kernel_rfl) (by simp) (AllReadyH.cons rfl (fun K hK => ?_) AllReadyH.nil)
        go_simp
        have P3 := P2.alloc (.cells #[.pointer (some ⟨gp, 9, none⟩), .pointer (some ⟨gp, 10, none⟩), .pointer (some ⟨gp, 11, none⟩), .pointer (some ⟨gp, 12, none⟩)] 114)
        have Q1 := Tide.At.made W10 114 #[.pointer (some ⟨gp, 9, none⟩), .pointer (some ⟨gp, 10, none⟩), .pointer (some ⟨gp, 11, none⟩), .pointer (some ⟨gp, 12, none⟩)]
        have e1a : W10.heap.size ≠ g := by have := P2.rd.inside; omega
        have e1b : W10.heap.size ≠ gp := by have := P2.plan.inside; omega
        refine hK.out _ _ trivial (fun hS => ?_)
        clear hS hK K
        generalize W10.alloc (.cells #[.pointer (some ⟨gp, 9, none⟩), .pointer (some ⟨gp, 10, none⟩), .pointer (some ⟨gp, 11, none⟩), .pointer (some ⟨gp, 12, none⟩)] 114) = V1 at P3 Q1 ⊢
        generalize W10.heap.size = b1 at Q1 e1a e1b ⊢
        refine wpAnyH_ready (rs := [34]) (by kernel_rfl) (by simp) (AllReadyH.cons rfl (fun K hK => ?_) AllReadyH.nil)
        go_simp
        refine (headRow w V1 R m g gp v 2 _ _ b1 4 (by omega) (by omega) P3 Q1 e1a e1b).mono ?_
        rintro e W11 ⟨r1, rfl, ht1, hf1⟩
        go_wp2_with fail
        refine hK.out _ _ trivial (fun hS => ?_)
        clear hS hK K
        cases r1
        · have HF := Lib.hid (show StepPost w R m g gp v 3 (.returned (.bool false)) W11 from ⟨false, rfl, (by simp), hf1⟩)
          clear ht1 hf1
          refine tk 35 (.bool false) rfl (.inl ⟨by rfl, fun W hW => ?_⟩) trivial ?_
          · clear hW; go_simp
          simp only [Act.put, tkA, tkB, tkC, tkD, tkE, tkF]
          refine tk 36 (.bool false) rfl (.inl ⟨by rfl, fun W hW => ?_⟩) trivial ?_
          · clear hW; go_simp
          simp only [Act.put, tkA, tkB, tkC, tkD, tkE, tkF]
          refine tk 37 undef rfl (.inr ⟨by rfl, rfl⟩) trivial ?_
          simp only [Act.put, tkA, tkB, tkC, tkD, tkE, tkF]
          refine tk 38 undef rfl (.inr ⟨by rfl, rfl⟩) trivial ?_
          simp only [Act.put, tkA, tkB, tkC, tkD, tkE, tkF]
          refine tk 39 undef rfl (.inr ⟨by rfl, rfl⟩) trivial ?_
          simp only [Act.put, tkA, tkB, tkC, tkD, tkE, tkF]
          refine tk 40 undef rfl (.inr ⟨by rfl, rfl⟩) trivial ?_
          simp only [Act.put, tkA, tkB, tkC, tkD, tkE, tkF]
          refine tk 41 undef rfl (.inr ⟨by rfl, rfl⟩) trivial ?_
          simp only [Act.put, tkA, tkB, tkC, tkD, tkE, tkF]
          refine tk 42 undef rfl (.inr ⟨by rfl, rfl⟩) trivial ?_
          simp only [Act.put, tkA, tkB, tkC, tkD, tkE, tkF]
          refine tk 43 undef rfl (.inr ⟨by rfl, rfl⟩) trivial ?_
          simp only [Act.put, tkA, tkB, tkC, tkD, tkE, tkF]
          refine tk 44 undef rfl (.inr ⟨by rfl, rfl⟩) trivial ?_
          simp only [Act.put, tkA, tkB, tkC, tkD, tkE, tkF]
          refine tk 45 undef rfl (.inr ⟨by rfl, rfl⟩) trivial ?_
          simp only [Act.put, tkA, tkB, tkC, tkD, tkE, tkF]
          refine tk 46 undef rfl (.inr ⟨by rfl, rfl⟩) trivial ?_
          simp only [Act.put, tkA, tkB, tkC, tkD, tkE, tkF]
          refine tk 47 undef rfl (.inr ⟨by rfl, rfl⟩) trivial ?_
          simp only [Act.put, tkA, tkB, tkC, tkD, tkE, tkF]
          refine tk 48 undef rfl (.inr ⟨by rfl, rfl⟩) trivial ?_
          simp only [Act.put, tkA, tkB, tkC, tkD, tkE, tkF]
          refine tk 49 undef rfl (.inr ⟨by rfl, rfl⟩) trivial ?_
          simp only [Act.put, tkA, tkB, tkC, tkD, tkE, tkF]
          refine tk 50 undef rfl (.inr ⟨by rfl, rfl⟩) trivial ?_
          simp only [Act.put, tkA, tkB, tkC, tkD, tkE, tkF]
          refine tk 51 undef rfl (.inr ⟨by rfl, rfl⟩) trivial ?_
          simp only [Act.put, tkA, tkB, tkC, tkD, tkE, tkF]
          refine tk 52 undef rfl (.inr ⟨by rfl, rfl⟩) trivial ?_
          simp only [Act.put, tkA, tkB, tkC, tkD, tkE, tkF]
          refine tk 53 undef rfl (.inr ⟨by rfl, rfl⟩) trivial ?_
          simp only [Act.put, tkA, tkB, tkC, tkD, tkE, tkF]
          refine tk 54 undef rfl (.inr ⟨by rfl, rfl⟩) trivial ?_
          simp only [Act.put, tkA, tkB, tkC, tkD, tkE, tkF]
          refine tk 55 undef rfl (.inr ⟨by rfl, rfl⟩) trivial ?_
          simp only [Act.put, tkA, tkB, tkC, tkD, tkE, tkF]
          refine tk 56 (.bool false) rfl (.inl ⟨by rfl, fun W hW => ?_⟩) trivial ?_
          · clear hW; go_simp
          simp only [Act.put, tkA, tkB, tkC, tkD, tkE, tkF]
          refine tk 57 (.bool false) rfl (.inl ⟨by rfl, fun W hW => ?_⟩) trivial ?_
          · clear hW; go_simp
          simp only [Act.put, tkA, tkB, tkC, tkD, tkE, tkF]
          refine wpAnyH_done (by kernel_rfl) ?_ _
          go_wp2_with fail
          go_ret
          exact HF.out
        · obtain ⟨pl3, rest3, P4⟩ := ht1 rfl
          clear hf1
          refine tk 35 (.bool true) rfl (.inl ⟨by rfl, fun W hW => ?_⟩) trivial ?_
          · clear hW; go_simp
          simp only [Act.put, tkA, tkB, tkC, tkD, tkE, tkF]
          refine tk 36 (.bool true) rfl (.inl ⟨by rfl, fun W hW => ?_⟩) trivial ?_
          · clear hW; go_simp
          simp only [Act.put, tkA, tkB, tkC, tkD, tkE, tkF]
          refine tk 37 (.pointer (some ⟨g, 0, none⟩)) rfl (.inl ⟨by rfl, fun W hW => ?_⟩) trivial ?_
          · clear hW; go_simp
          simp only [Act.put, tkA, tkB, tkC, tkD, tkE, tkF]
          refine tk 38 (.pointer (some ⟨gp, 0, none⟩)) rfl (.inl ⟨by rfl, fun W hW => ?_⟩) trivial ?_
          · clear hW; go_simp
          simp only [Act.put, tkA, tkB, tkC, tkD, tkE, tkF]
          refine tk 39 (.pointer (some ⟨gp, 0, none⟩)) rfl (.inl ⟨by rfl, fun W hW => ?_⟩) trivial ?_
          · clear hW; go_simp
          simp only [Act.put, tkA, tkB, tkC, tkD, tkE, tkF]
          refine tk 40 (.pointer (some ⟨gp, 13, none⟩)) rfl (.inl ⟨by rfl, fun W hW => ?_⟩) trivial ?_
          · clear hW; go_simp
          simp only [Act.put, tkA, tkB, tkC, tkD, tkE, tkF]
          refine tk 41 (.pointer (some ⟨gp, 13, none⟩)) rfl (.inl ⟨by rfl, fun W hW => ?_⟩) trivial ?_
          · clear hW; go_simp
          simp only [Act.put, tkA, tkB, tkC, tkD, tkE, tkF]
          refine tk 42 (.pointer (some ⟨gp, 0, none⟩)) rfl (.inl ⟨by rfl, fun W hW => ?_⟩) trivial ?_
          · clear hW; go_simp
          simp only [Act.put, tkA, tkB, tkC, tkD, tkE, tkF]
          refine tk 43 (.pointer (some ⟨gp, 0, none⟩)) rfl (.inl ⟨by rfl, fun W hW => ?_⟩) trivial ?_
          · clear hW; go_simp
          simp only [Act.put, tkA, tkB, tkC, tkD, tkE, tkF]
          refine tk 44 (.pointer (some ⟨gp, 13, none⟩)) rfl (.inl ⟨by rfl, fun W hW => ?_⟩) trivial ?_
          · clear hW; go_simp
          simp only [Act.put, tkA, tkB, tkC, tkD, tkE, tkF]
          refine tk 45 (.pointer (some ⟨gp, 14, none⟩)) rfl (.inl ⟨by rfl, fun W hW => ?_⟩) trivial ?_
          · clear hW; go_simp
          simp only [Act.put, tkA, tkB, tkC, tkD, tkE, tkF]
          refine tk 46 (.pointer (some ⟨gp, 0, none⟩)) rfl (.inl ⟨by rfl, fun W hW => ?_⟩) trivial ?_
          · clear hW; go_simp
          simp only [Act.put, tkA, tkB, tkC, tkD, tkE, tkF]
          refine tk 47 (.pointer (some ⟨gp, 0, none⟩)) rfl (.inl ⟨by rfl, fun W hW => ?_⟩) trivial ?_
          · clear hW; go_simp
          simp only [Act.put, tkA, tkB, tkC, tkD, tkE, tkF]
          refine tk 48 (.pointer (some ⟨gp, 13, none⟩)) rfl (.inl ⟨by rfl, fun W hW => ?_⟩) trivial ?_
          · clear hW; go_simp
          simp only [Act.put, tkA, tkB, tkC, tkD, tkE, tkF]
          refine tk 49 (.pointer (some ⟨gp, 15, none⟩)) rfl (.inl ⟨by rfl, fun W hW => ?_⟩) trivial ?_
          · clear hW; go_simp
          simp only [Act.put, tkA, tkB, tkC, tkD, tkE, tkF]
          refine tk 50 (.pointer (some ⟨gp, 0, none⟩)) rfl (.inl ⟨by rfl, fun W hW => ?_⟩) trivial ?_
          · clear hW; go_simp
          simp only [Act.put, tkA, tkB, tkC, tkD, tkE, tkF]
          refine tk 51 (.pointer (some ⟨gp, 0, none⟩)) rfl (.inl ⟨by rfl, fun W hW => ?_⟩) trivial ?_
          · clear hW; go_simp
          simp only [Act.put, tkA, tkB, tkC, tkD, tkE, tkF]
          refine tk 52 (.pointer (some ⟨gp, 13, none⟩)) rfl (.inl ⟨by rfl, fun W hW => ?_⟩) trivial ?_
          · clear hW; go_simp
          simp only [Act.put, tkA, tkB, tkC, tkD, tkE, tkF]
          refine tk 53 (.pointer (some ⟨gp, 16, none⟩)) rfl (.inl ⟨by rfl, fun W hW => ?_⟩) trivial ?_
          · clear hW; go_simp
          simp only [Act.put, tkA, tkB, tkC, tkD, tkE, tkF]
          refine wpAnyH_ready (rs := [54]) (by kernel_rfl) (by simp) (AllReadyH.cons rfl (fun K hK => ?_) AllReadyH.nil)
          go_simp
          have P5 := P4.alloc (.cells #[.pointer (some ⟨gp, 13, none⟩), .pointer (some ⟨gp, 14, none⟩), .pointer (some ⟨gp, 15, none⟩), .pointer (some ⟨gp, 16, none⟩)] 114)
          have Q2 := Tide.At.made W11 114 #[.pointer (some ⟨gp, 13, none⟩), .pointer (some ⟨gp, 14, none⟩), .pointer (some ⟨gp, 15, none⟩), .pointer (some ⟨gp, 16, none⟩)]
          have e2a : W11.heap.size ≠ g := by have := P4.rd.inside; omega
          have e2b : W11.heap.size ≠ gp := by have := P4.plan.inside; omega
          refine hK.out _ _ trivial (fun hS => ?_)
          clear hS hK K
          generalize W11.alloc (.cells #[.pointer (some ⟨gp, 13, none⟩), .pointer (some ⟨gp, 14, none⟩), .pointer (some ⟨gp, 15, none⟩), .pointer (some ⟨gp, 16, none⟩)] 114) = V2 at P5 Q2 ⊢
          generalize W11.heap.size = b2 at Q2 e2a e2b ⊢
          refine wpAnyH_ready (rs := [55]) (by kernel_rfl) (by simp) (AllReadyH.cons rfl (fun K hK => ?_) AllReadyH.nil)
          go_simp
          refine (headRow w V2 R m g gp v 3 _ _ b2 4 (by omega) (by omega) P5 Q2 e2a e2b).mono ?_
          rintro e W12 ⟨r2, rfl, ht2, hf2⟩
          go_wp2_with fail
          refine hK.out _ _ trivial (fun hS => ?_)
          clear hS hK K
          cases r2
          · have HF := Lib.hid (show StepPost w R m g gp v 3 (.returned (.bool false)) W12 from ⟨false, rfl, (by simp), hf2⟩)
            clear ht2 hf2
            refine tk 56 (.bool false) rfl (.inl ⟨by rfl, fun W hW => ?_⟩) trivial ?_
            · clear hW; go_simp
            simp only [Act.put, tkA, tkB, tkC, tkD, tkE, tkF]
            refine tk 57 (.bool false) rfl (.inl ⟨by rfl, fun W hW => ?_⟩) trivial ?_
            · clear hW; go_simp
            simp only [Act.put, tkA, tkB, tkC, tkD, tkE, tkF]
            refine wpAnyH_done (by kernel_rfl) ?_ _
            go_wp2_with fail
            go_ret
            exact HF.out
          · have HF := Lib.hid (show StepPost w R m g gp v 3 (.returned (.bool true)) W12 from ⟨true, rfl, ht2, (by simp)⟩)
            clear ht2 hf2
            refine tk 56 (.bool true) rfl (.inl ⟨by rfl, fun W hW => ?_⟩) trivial ?_
            · clear hW; go_simp
            simp only [Act.put, tkA, tkB, tkC, tkD, tkE, tkF]
            refine tk 57 (.bool true) rfl (.inl ⟨by rfl, fun W hW => ?_⟩) trivial ?_
            · clear hW; go_simp
            simp only [Act.put, tkA, tkB, tkC, tkD, tkE, tkF]
            refine wpAnyH_done (by kernel_rfl) ?_ _
            go_wp2_with fail
            go_ret
            exact HF.out
end Go.Proofs.YtidonhndeohdlaaGreatDoor
