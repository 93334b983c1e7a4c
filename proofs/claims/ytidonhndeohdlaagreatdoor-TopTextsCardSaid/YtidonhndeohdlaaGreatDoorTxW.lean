/- The walk of TopTexts. -/
import Derived.Deep.RegionHeld3
import Derived.Test.YtidonhndeohdlaaGreatDoorTk
import Derived.Test.YtidonhndeohdlaaGreatDoorTt39
import Derived.Test.YtidonhndeohdlaaGreatDoorTt43
set_option linter.unusedVariables false
set_option linter.unusedSimpArgs false
namespace Go.Proofs.YtidonhndeohdlaaGreatDoor
open Go.RowKit
def TtRun (w wr : World) (qa qb : Wp) (ma mb : Wo) : Prop := TwoW (fun b => b < w.heap.size) wr qa ma qb mb ∧ Below w.heap.size w wr
theorem TtRun.below {w wr w' : World} {qa qb : Wp} {ma mb : Wo} (h : TtRun w wr qa qb ma mb) (hb : Below wr.heap.size wr w') : TtRun w w' qa qb ma mb := ⟨h.1.below hb, h.2.trans (hb.mono h.2.size)⟩
theorem TtRun.chg {w wr w' : World} {qa qb : Wp} {ma mb : Wo} (h : TtRun w wr qa qb ma mb) (hc : Tide.Chg (fun _ => False) wr w') : TtRun w w' qa qb ma mb := ⟨h.1.chg hc, h.2.trans (hc.below h.2.size (fun _ _ h => h))⟩
theorem tx_load {P : Program} {ev : Operand → Value} {o : Oper} {ty t : TypeId} {x : Operand} {g : Nat} {cs : Array Value} {d : TypeDesc} {W : World} (ho : o.op = .load ty x) (hx : ev x = .pointer (some ⟨g, 0, none⟩)) (hg : W.heap[g]? = some (.cells cs t (0, 0)))
    (hu : P.underlying ty = some d) (hd : (match d with | .struct _ | .array _ _ => true | _ => false) = true) (hi : (P.info? ty).map (·.size) = some cs.size) : (execOp ev o).run P W = .ok (.value (.agg cs)) W := by
  unfold execOp
  simp only [ho, hx, Instr.loadAt, Instr.sureAddr, Sem.run_bind, Sem.run_pure, Result.andThen_ok, run_loadVar_row W g t ty cs (0, 0) d hg hu hd hi]
set_option maxRecDepth 100000 in
set_option maxHeartbeats 12800000 in
theorem topTexts_walk (p : Pln) (A : Option Addr) (cap : Nat) (parts most sec : Int) (A1 : Option Addr) (cap1 : Nat) (l : List (List Int)) (m : Int) (w : World) (ht : Tide.ListIn w 17 Trg.enc (.slice A p.trigs.length cap) p.trigs) (hf : ∀ t ∈ p.trigs, t.fits) (hn : p.name.size ≤ 9223372036854775807) (hl : p.trigs.length ≤ 9223372036854775807)
    (hr : ∀ row ∈ l, row.length = 3 ∧ ∀ x ∈ row, -9223372036854775808 ≤ x ∧ x ≤ 9223372036854775807) (hA : RowsAt w 3 A1 l) (hl1 : l.length ≤ 9223372036854775807) (hT : PowTab w) (hm : w.cell? ⟨1, 0, none⟩ = some (.int .i64 m)) :
    Calls Tryz.prog 3 #[.agg (plnC p (.slice A p.trigs.length cap)), .int .i64 parts, .int .i64 most, .int .i64 sec, .slice A1 l.length cap1] w fun e w' => e = .returned (.bool true) ∧ Below w.heap.size w w' := by
  have hml := World.block_lt_of_cell? _ _ hm
  have hnew := (Below.refl w.heap.size w).alloc (Nat.le_refl _) (.cells (plnC p (.slice A p.trigs.length cap)) 26)
  have HS := Lib.hid (show PbS w (w.alloc (.cells (plnC p (.slice A p.trigs.length cap)) 26)) m w.heap.size p A cap from
    ⟨Tide.At.made _ _ _, ht.below hnew (Nat.le_refl _), hT.below hnew, (hnew.cell (p := ⟨1, 0, none⟩) hml).trans hm, hml, hnew⟩)
  have HPr := Lib.hid (fun (W : World) (h : PbS w W m w.heap.size p A cap) => printV p A cap W h.row hf hn hl h.tab)
  have HPl := Lib.hid (fun (W : World) (A' : Option Addr) (cap' : Nat) (hL : Tide.ListIn W 17 Trg.enc (.slice A' p.trigs.length cap') p.trigs) (hb : Below w.heap.size w W) => (topPlayed p A' cap' parts most sec A1 cap1 l W hL hf hn hl hr (hA.below hb (Nat.le_refl _)) hl1 : Calls Tryz.prog 7 #[.agg (plnC p (.slice A' p.trigs.length cap')), .int .i64 parts, .int .i64 most, .int .i64 sec, .slice A1 l.length cap1] W (PlayedPost W p parts most sec l)))
  have HFi := Lib.hid hf
  clear ht hf hn hl hT hm hnew hml hr hA hl1
  go_enter Tryz.func3, Tryz.ntmps3
  go_upto_region 1 with fail
  generalize w.alloc (.cells (plnC p (.slice A p.trigs.length cap)) 26) = W1 at HS ⊢
  obtain ⟨g, hg⟩ : ∃ g, w.heap.size = g := ⟨_, rfl⟩
  have HG := Lib.hid hg
  rw [hg] at HS HPr ⊢
  clear hg
  go_wp2_with fail
  refine (topSaid W1).mono ?_
  rintro e w1 ⟨rfl, hb1⟩
  have HS1 := Lib.hid (HS.out.next hb1)
  clear HS hb1
  go_wp2_with (refine wpList_load_row rfl 26 (.tmp 5) rfl g rfl 26 _ (0, 0) _ HS1.out.at_ Tryz.underlying26 rfl (by kernel_rfl) ?_)
  refine (HPr.out w1 HS1.out).mono ?_
  rintro e w2 ⟨rfl, hb2⟩
  have HS2 := Lib.hid (HS1.out.next hb2)
  clear HS1 HPr hb2
  by_cases he : planE p = 0
  · have HE := Lib.hid he
    have hsz := text_max he
    rw [he, if_pos rfl]
    by_cases hlen : 2048 < p.text.size
    · have HP := Lib.hid (parseForm p.text m w2 (zeroP, 0, 2) (read_long hlen) HS2.out.mx (by omega))
      clear hlen hsz he
      generalize p.text = T0 at HP ⊢
      go_wp2_with fail
      refine HP.out.mono ?_
      rintro e w3 ⟨A3, c3, rfl, hl3, hb3⟩
      have HB3 := Lib.hid hb3
      clear hb3 hl3 HP
      have HZ := Lib.hid (show Tide.At (w3.alloc (.cells #[.string ⟨#[]⟩, .int .i64 0, .int .i64 0, .int .i64 0, .int .i64 0, .int .i64 0, .int .i64 0, .int .i64 0, .int .i64 0, .int .i64 0, .int .i64 0, .int .i64 0, .int .i64 0, .int .i64 0, .int .i64 0, .int .i64 0, .int .i64 0, .slice none 0 0] 26)) w3.heap.size 26 (plnC zeroP (.slice none 0 0)) from Tide.At.made w3 26 (plnC zeroP (.slice none 0 0)))
      obtain ⟨hat, hbn⟩ := made_row w3 zeroP (.slice A3 zeroP.trigs.length c3)
      go_upto_region 5 with (refine wpList_store_row rfl 26 (.tmp 13) (.tmp 28) rfl w3.heap.size (plnC zeroP (.slice A3 zeroP.trigs.length c3)) rfl rfl 26 (plnC zeroP (.slice none 0 0)) HZ.out (by kernel_rfl) rfl (by kernel_rfl) ?_)
      have HAx := Lib.hid hat
      have HBx := Lib.hid hbn
      clear HZ hat hbn
      generalize (w3.alloc (.cells #[.string ⟨#[]⟩, .int .i64 0, .int .i64 0, .int .i64 0, .int .i64 0, .int .i64 0, .int .i64 0, .int .i64 0, .int .i64 0, .int .i64 0, .int .i64 0, .int .i64 0, .int .i64 0, .int .i64 0, .int .i64 0, .int .i64 0, .int .i64 0, .slice none 0 0] 26)).setRow w3.heap.size (plnC zeroP (.slice A3 zeroP.trigs.length c3)) = w4 at HAx HBx ⊢
      have HF := Lib.hid (HS2.out.below.trans ((HB3.out.trans (HBx.out.mono HB3.out.size)).mono HS2.out.below.size))
      go_wp2_with fail
      go_ret
      exact ⟨rfl, HF.out⟩
    · have HP := Lib.hid (parseForm p.text m w2 (p, 0, 0) (plan_back he HFi.out (by omega)) HS2.out.mx (by omega))
      clear hlen hsz he
      generalize p.text = T0 at HP ⊢
      go_wp2_with fail
      refine HP.out.mono ?_
      rintro e w3 ⟨A3, c3, rfl, hl3, hb3⟩
      have HB3 := Lib.hid hb3
      have HL3 := Lib.hid hl3
      clear hb3 hl3 HP
      have HZ := Lib.hid (show Tide.At (w3.alloc (.cells #[.string ⟨#[]⟩, .int .i64 0, .int .i64 0, .int .i64 0, .int .i64 0, .int .i64 0, .int .i64 0, .int .i64 0, .int .i64 0, .int .i64 0, .int .i64 0, .int .i64 0, .int .i64 0, .int .i64 0, .int .i64 0, .int .i64 0, .int .i64 0, .slice none 0 0] 26)) w3.heap.size 26 (plnC zeroP (.slice none 0 0)) from Tide.At.made w3 26 (plnC zeroP (.slice none 0 0)))
      obtain ⟨hat, hbn⟩ := made_row w3 p (.slice A3 p.trigs.length c3)
      go_upto_region 5 with (refine wpList_store_row rfl 26 (.tmp 13) (.tmp 28) rfl w3.heap.size (plnC p (.slice A3 p.trigs.length c3)) rfl rfl 26 (plnC zeroP (.slice none 0 0)) HZ.out (by kernel_rfl) rfl (by kernel_rfl) ?_)
      have HAx := Lib.hid hat
      have HBx := Lib.hid hbn
      clear HZ hat hbn
      generalize (w3.alloc (.cells #[.string ⟨#[]⟩, .int .i64 0, .int .i64 0, .int .i64 0, .int .i64 0, .int .i64 0, .int .i64 0, .int .i64 0, .int .i64 0, .int .i64 0, .int .i64 0, .int .i64 0, .int .i64 0, .int .i64 0, .int .i64 0, .int .i64 0, .int .i64 0, .slice none 0 0] 26)).setRow w3.heap.size (plnC p (.slice A3 p.trigs.length c3)) = w4 at HAx HBx ⊢
      have HS4 := Lib.hid (HS2.out.next (HB3.out.trans (HBx.out.mono HB3.out.size)))
      have HL4 := Lib.hid (HL3.out.below HBx.out (Nat.le_refl _))
      generalize w3.heap.size = g13 at HAx ⊢
      clear HB3 HBx HL3 HS2
      go_upto_region 7 with fail
      have HC1 := Lib.hid (HPl.out w4.drew A cap HS4.out.row HS4.out.below.drew)
      refine wp_region_held_drew (S := fun Wx => Tide.At Wx g 26 (plnC p (.slice A p.trigs.length cap)) ∧ Tide.At Wx g13 26 (plnC p (.slice A3 p.trigs.length c3))) (by kernel_rfl) ⟨HS4.out.at_.drew, HAx.out.drew⟩ (fun hS => ?_)
      change wpAnyH _ _ _ _ _ 14 #[false, false, false, false, false, false, false, false, false, false, false, false, false, false] _ (World.drew _)
      refine tk 0 (.agg (plnC p (.slice A p.trigs.length cap))) rfl (.inl ⟨by rfl, fun W hW => ?_⟩) hS ?_
      · exact tx_load rfl rfl hW.1 Tryz.underlying26 rfl (by kernel_rfl)
      simp only [Act.put, tkA, tkB, tkC, tkD, tkE, tkF]
      refine tk 1 (.int .i64 parts) rfl (.inl ⟨by rfl, fun W hW => ?_⟩) hS ?_
      · clear hW; go_simp
      simp only [Act.put, tkA, tkB, tkC, tkD, tkE, tkF]
      refine tk 2 (.int .i64 most) rfl (.inl ⟨by rfl, fun W hW => ?_⟩) hS ?_
      · clear hW; go_simp
      simp only [Act.put, tkA, tkB, tkC, tkD, tkE, tkF]
      refine tk 3 (.int .i64 sec) rfl (.inl ⟨by rfl, fun W hW => ?_⟩) hS ?_
      · clear hW; go_simp
      simp only [Act.put, tkA, tkB, tkC, tkD, tkE, tkF]
      refine tk 4 (.slice A1 l.length cap1) rfl (.inl ⟨by rfl, fun W hW => ?_⟩) hS ?_
      · clear hW; go_simp
      simp only [Act.put, tkA, tkB, tkC, tkD, tkE, tkF]
      refine tk 6 (.agg (plnC p (.slice A3 p.trigs.length c3))) rfl (.inl ⟨by rfl, fun W hW => ?_⟩) hS ?_
      · exact tx_load rfl rfl hW.2 Tryz.underlying26 rfl (by kernel_rfl)
      simp only [Act.put, tkA, tkB, tkC, tkD, tkE, tkF]
      refine tk 7 (.int .i64 parts) rfl (.inl ⟨by rfl, fun W hW => ?_⟩) hS ?_
      · clear hW; go_simp
      simp only [Act.put, tkA, tkB, tkC, tkD, tkE, tkF]
      refine tk 8 (.int .i64 most) rfl (.inl ⟨by rfl, fun W hW => ?_⟩) hS ?_
      · clear hW; go_simp
      simp only [Act.put, tkA, tkB, tkC, tkD, tkE, tkF]
      refine tk 9 (.int .i64 sec) rfl (.inl ⟨by rfl, fun W hW => ?_⟩) hS ?_
      · clear hW; go_simp
      simp only [Act.put, tkA, tkB, tkC, tkD, tkE, tkF]
      refine tk 10 (.slice A1 l.length cap1) rfl (.inl ⟨by rfl, fun W hW => ?_⟩) hS ?_
      · clear hW; go_simp
      simp only [Act.put, tkA, tkB, tkC, tkD, tkE, tkF]
      refine wpAnyH_ready (rs := [5]) (by kernel_rfl) (by simp) (AllReadyH.cons rfl (fun K hK => ?_) AllReadyH.nil)
      have HS := Lib.hid hS
      clear hS
      go_simp
      refine HC1.out.mono ?_
      intro e w5 hp
      clear HC1
      cases hp with
      | bad _ h hb =>
        have HH := Lib.hid h
        have HB5 := Lib.hid (HS4.out.below.drew.trans (hb.mono HS4.out.below.drew.size))
        have HL5 := Lib.hid ((show Tide.ListIn w4.drew 17 Trg.enc (.slice A3 p.trigs.length c3) p.trigs from HL4.out).below hb (Nat.le_refl _))
        have hS5 : Tide.At w5 g 26 (plnC p (.slice A p.trigs.length cap)) ∧ Tide.At w5 g13 26 (plnC p (.slice A3 p.trigs.length c3)) := ⟨HS.out.1.below hb HS.out.1.inside, HS.out.2.below hb HS.out.2.inside⟩
        clear h hb HS
        go_wp2_with fail
        refine hK.out _ _ hS5 (fun hS => ?_)
        clear hS5 hK K
        have HC2 := Lib.hid (HPl.out w5 A3 c3 HL5.out HB5.out)
        refine wpAnyH_ready (rs := [11]) (by kernel_rfl) (by simp) (AllReadyH.cons rfl (fun K hK => ?_) AllReadyH.nil)
        have HS := Lib.hid hS
        clear hS
        go_simp
        refine HC2.out.mono ?_
        intro e w6 hp
        clear HC2
        cases hp with
        | bad _ h hb =>
          have HF := Lib.hid (HB5.out.trans (hb.mono HB5.out.size))
          have HS6 := Lib.hid (show Tide.At w6 g 26 (plnC p (.slice A p.trigs.length cap)) ∧ Tide.At w6 g13 26 (plnC p (.slice A3 p.trigs.length c3)) from ⟨HS.out.1.below hb HS.out.1.inside, HS.out.2.below hb HS.out.2.inside⟩)
          clear h hb HS
          go_wp2_with fail
          refine hK.out _ _ ⟨HS6.out.1, HS6.out.2⟩ (fun hS => ?_)
          clear hK K
          refine tk 12 (.pointer none) rfl (.inl ⟨by rfl, fun W hW => ?_⟩) hS ?_
          · clear hW; go_simp
          simp only [Act.put, tkA, tkB, tkC, tkD, tkE, tkF]
          refine tk 13 (.pointer none) rfl (.inl ⟨by rfl, fun W hW => ?_⟩) hS ?_
          · clear hW; go_simp
          simp only [Act.put, tkA, tkB, tkC, tkD, tkE, tkF]
          clear hS
          refine wpAnyH_done (by kernel_rfl) ?_ _
          go_wp2_with fail
          go_ret
          exact ⟨rfl, HF.out⟩
        | good _ q he hl hn hok hb =>
          exfalso
          rcases HH.out with h | h
          · exact h he
          · omega
      | good _ qa he hl hn hok hb =>
        have HH := Lib.hid he
        have HH2 := Lib.hid hl
        have HOk := Lib.hid hok
        have HB5 := Lib.hid (HS4.out.below.drew.trans (hb.mono HS4.out.below.drew.size))
        have HNa := Lib.hid (hn.mono (R' := fun b => b < w.heap.size) fun b hb2 => Nat.lt_of_lt_of_le hb2 HS4.out.below.drew.size)
        have HL5 := Lib.hid ((show Tide.ListIn w4.drew 17 Trg.enc (.slice A3 p.trigs.length c3) p.trigs from HL4.out).below hb (Nat.le_refl _))
        have hS5 : Tide.At w5 g 26 (plnC p (.slice A p.trigs.length cap)) ∧ Tide.At w5 g13 26 (plnC p (.slice A3 p.trigs.length c3)) := ⟨HS.out.1.below hb HS.out.1.inside, HS.out.2.below hb HS.out.2.inside⟩
        clear he hl hn hok hb HS
        go_wp2_with fail
        refine hK.out _ _ hS5 (fun hS => ?_)
        clear hS5 hK K
        have HC2 := Lib.hid (HPl.out w5 A3 c3 HL5.out HB5.out)
        refine wpAnyH_ready (rs := [11]) (by kernel_rfl) (by simp) (AllReadyH.cons rfl (fun K hK => ?_) AllReadyH.nil)
        have HS := Lib.hid hS
        clear hS
        go_simp
        refine HC2.out.mono ?_
        intro e w6 hp
        clear HC2
        cases hp with
        | bad _ h hb =>
          exfalso
          rcases h with h | h
          · exact h HH.out
          · have := HH2.out; omega
        | good _ qb he hl hn hok2 hb =>
          have HT0 := Lib.hid (show TtRun w w6 qa qb (playW (newWo p parts most sec) l) (playW (newWo p parts most sec) l) from ⟨TwoW.made HNa.out (fun b hb => Nat.lt_of_lt_of_le hb HB5.out.size) hn hb, HB5.out.trans (hb.mono HB5.out.size)⟩)
          have HOkz := Lib.hid ((ok_play HOk.out l).up (k := 60000) (by have := HH2.out; omega))
          have HS6 := Lib.hid (show Tide.At w6 g 26 (plnC p (.slice A p.trigs.length cap)) ∧ Tide.At w6 g13 26 (plnC p (.slice A3 p.trigs.length c3)) from ⟨HS.out.1.below hb HS.out.1.inside, HS.out.2.below hb HS.out.2.inside⟩)
          clear he hl hn hok2 hb HS HNa HH
          go_wp2_with fail
          refine hK.out _ _ ⟨HS6.out.1, HS6.out.2⟩ (fun hS => ?_)
          clear hK K
          refine tk 12 (.pointer (some ⟨qa.g, 0, none⟩)) rfl (.inl ⟨by rfl, fun W hW => ?_⟩) hS ?_
          · clear hW; go_simp
          simp only [Act.put, tkA, tkB, tkC, tkD, tkE, tkF]
          refine tk 13 (.pointer (some ⟨qb.g, 0, none⟩)) rfl (.inl ⟨by rfl, fun W hW => ?_⟩) hS ?_
          · clear hW; go_simp
          simp only [Act.put, tkA, tkB, tkC, tkD, tkE, tkF]
          clear hS
          refine wpAnyH_done (by kernel_rfl) ?_ _
          have HZ := HT0
          have HFn := Lib.hid (show (playW (newWo p parts most sec) l).f.length ≤ 100000000 by have := HOkz.out.fn; omega)
          generalize playW (newWo p parts most sec) l = mz at HZ HOkz HFn
          clear HT0
          go_wp2_with fail
          refine (woTarget HZ.out.1.one).mono ?_
          rintro e w' ⟨rfl, rfl⟩
          go_wp2_with fail
          refine (woTarget HZ.out.1.two).mono ?_
          rintro e w' ⟨rfl, rfl⟩
          have HZ1 := HZ
          go_wp2_with fail
          refine (woPodsOf HZ1.out.1.one).mono ?_
          rintro e wa1 ⟨va1, rfl, ho, hb⟩
          obtain ⟨Aa1, ca1, rfl, _⟩ := ho.slice
          have HLa1 := Lib.hid (ho.list Tide.Pod.enc_length)
          have HZa1 := Lib.hid (HZ1.out.below hb)
          clear ho hb HZ1
          go_wp2_with fail
          refine (woPodsOf HZa1.out.1.two).mono ?_
          rintro e wb1 ⟨vb1, rfl, ho, hb⟩
          obtain ⟨Ab1, cb1, rfl, _⟩ := ho.slice
          have HLb1 := Lib.hid (ho.list Tide.Pod.enc_length)
          have HLc1 := Lib.hid (HLa1.out.below hb (Nat.le_refl _))
          have HZb1 := Lib.hid (HZa1.out.below hb)
          clear ho hb HZa1 HLa1
          go_wp2_with fail
          refine (epod_equal _ _ mz.f _ HLc1.out HLb1.out (HFn.out)).mono ?_
          rintro e wc1 ⟨rfl, hc⟩
          have HZ2 := Lib.hid (HZb1.out.chg hc)
          clear hc HLb1 HLc1 HZb1
          go_wp2_with fail
          refine (woReqsOf HZ2.out.1.one).mono ?_
          rintro e wa2 ⟨va2, rfl, ho, hb⟩
          obtain ⟨Aa2, ca2, rfl, _⟩ := ho.slice
          have HLa2 := Lib.hid (ho.list Tide.Req.enc_length)
          have HZa2 := Lib.hid (HZ2.out.below hb)
          clear ho hb HZ2
          go_wp2_with fail
          refine (woReqsOf HZa2.out.1.two).mono ?_
          rintro e wb2 ⟨vb2, rfl, ho, hb⟩
          obtain ⟨Ab2, cb2, rfl, _⟩ := ho.slice
          have HLb2 := Lib.hid (ho.list Tide.Req.enc_length)
          have HLc2 := Lib.hid (HLa2.out.below hb (Nat.le_refl _))
          have HZb2 := Lib.hid (HZa2.out.below hb)
          clear ho hb HZa2 HLa2
          go_wp2_with fail
          refine (ereq_equal _ _ mz.b _ HLc2.out HLb2.out (by have := HOkz.out.bn; omega)).mono ?_
          rintro e wc2 ⟨rfl, hc⟩
          have HF := Lib.hid (HZb2.out.2.trans (hc.below HZb2.out.2.size (fun _ _ h => h)))
          clear hc HLb2 HLc2 HZb2
          go_wp2_with fail
          go_ret
          exact ⟨rfl, HF.out⟩
  · have he2 : (planE p != 0) = true := by simpa using he
    have HP := Lib.hid (parseForm ⟨#[]⟩ m w2 _ rfl HS2.out.mx (by decide))
    rw [if_neg he]
    clear he
    generalize readR ⟨#[]⟩ = R at HP
    obtain ⟨q, k, x⟩ := R
    generalize planE p = E at he2 ⊢
    go_wp2_with fail
    refine HP.out.mono ?_
    rintro e w3 ⟨A3, c3, rfl, hl3, hb3⟩
    have HB3 := Lib.hid hb3
    clear hb3 hl3 HP
    have HZ := Lib.hid (show Tide.At (w3.alloc (.cells #[.string ⟨#[]⟩, .int .i64 0, .int .i64 0, .int .i64 0, .int .i64 0, .int .i64 0, .int .i64 0, .int .i64 0, .int .i64 0, .int .i64 0, .int .i64 0, .int .i64 0, .int .i64 0, .int .i64 0, .int .i64 0, .int .i64 0, .int .i64 0, .slice none 0 0] 26)) w3.heap.size 26 (plnC zeroP (.slice none 0 0)) from Tide.At.made w3 26 (plnC zeroP (.slice none 0 0)))
    obtain ⟨hat, hbn⟩ := made_row w3 q (.slice A3 q.trigs.length c3)
    go_upto_region 5 with (refine wpList_store_row rfl 26 (.tmp 13) (.tmp 28) rfl w3.heap.size (plnC q (.slice A3 q.trigs.length c3)) rfl rfl 26 (plnC zeroP (.slice none 0 0)) HZ.out (by kernel_rfl) rfl (by kernel_rfl) ?_)
    have HAx := Lib.hid hat
    have HBx := Lib.hid hbn
    clear HZ hat hbn
    generalize (w3.alloc (.cells #[.string ⟨#[]⟩, .int .i64 0, .int .i64 0, .int .i64 0, .int .i64 0, .int .i64 0, .int .i64 0, .int .i64 0, .int .i64 0, .int .i64 0, .int .i64 0, .int .i64 0, .int .i64 0, .int .i64 0, .int .i64 0, .int .i64 0, .int .i64 0, .slice none 0 0] 26)).setRow w3.heap.size (plnC q (.slice A3 q.trigs.length c3)) = w4 at HAx HBx ⊢
    have HF := Lib.hid (HS2.out.below.trans ((HB3.out.trans (HBx.out.mono HB3.out.size)).mono HS2.out.below.size))
    go_wp2_with fail
    go_ret
    exact ⟨rfl, HF.out⟩
end Go.Proofs.YtidonhndeohdlaaGreatDoor
