/- The walk of TopOnce. -/
import Derived.Test.YtlfaogkdghnmcaaGreatTpB
import Derived.Test.YtlfaogkdghnmcaaGreatWldQ
import Derived.Test.YtlfaogkdghnmcaaGreatMapsB
import Derived.Maps.Keyed
import Derived.Deep.DeepCutAuto
import Derived.Deep.CutBlock
set_option linter.unusedVariables false
set_option linter.unusedSimpArgs false
namespace Go.Proofs.YtlfaogkdghnmcaaGreat
open Go.RowKit Go.Maps
theorem onc_key : Keyed Tryz.prog 3 := int_keyed Tryz.underlying3
theorem onc_zero (w : World) : (zeroValue 3).run Tryz.prog w = .ok (.int .i64 0) w := by kernel_rfl
/-- the world, and the two maps beside it -/
structure OcRun (w wr : World) (B : Nat) (q : Wp) (m : Wo) (bp be np ne : Nat) (f g : Int → Int) : Prop where
  wo : WoN (fun b => b < B ∨ b = bp ∨ b = be) wr q m
  below : Below w.heap.size w wr
  pm : Tide.CntMap Tryz.prog 3 3 wr bp np f
  em : Tide.CntMap Tryz.prog 3 3 wr be ne g
structure OcMid (w wr : World) (B : Nat) (q : Wp) (m : Wo) (bp be np ne Q : Nat) (f g : Int → Int) (v : Value) : Prop where
  run : OcRun w wr B q m bp be np ne f g
  row : Tide.OwnRow (fun b => Q ≤ b) wr 55 5 v m.b.length (m.b.flatMap Tide.Req.enc)
  lp : bp < Q
  le : be < Q
  wp : w.heap.size ≤ bp
  we : w.heap.size ≤ be
  ne : bp ≠ be
section
variable {w wr w' : World} {B : Nat} {q : Wp} {m : Wo} {bp be np nn Q : Nat} {f g f' : Int → Int} {v : Value}
theorem OcRun.fresh (h : OcRun w wr B q m bp be np nn f g) (hb : Below wr.heap.size wr w') : OcRun w w' B q m bp be np nn f g :=
  ⟨h.wo.below hb, h.below.trans (hb.mono h.below.size), h.pm.chg (Tide.Chg.of_below (S := fun _ => False) hb (Nat.le_refl _)) (fun h => h), h.em.chg (Tide.Chg.of_below (S := fun _ => False) hb (Nat.le_refl _)) (fun h => h)⟩
theorem OcMid.fresh (h : OcMid w wr B q m bp be np nn Q f g v) (hb : Below wr.heap.size wr w') : OcMid w w' B q m bp be np nn Q f g v :=
  { h with run := h.run.fresh hb, row := h.row.below hb (Nat.le_refl _) }
theorem OcMid.alloc (h : OcMid w wr B q m bp be np nn Q f g v) (o : Obj) : OcMid w (wr.alloc o) B q m bp be np nn Q f g v := h.fresh ((Below.refl _ _).alloc (Nat.le_refl _) o)
theorem OcMid.putP (h : OcMid w wr B q m bp be np nn Q f g v) (hp : Tide.CntMap Tryz.prog 3 3 w' bp (np + 1) f') (hc : Tide.Chg (fun b => b = bp) wr w') : OcMid w w' B q m bp be (np + 1) nn Q f' g v :=
  { h with run := ⟨(h.run.wo.grow hc (fun b e => .inr (.inl e))).mono fun b hb => .inl hb, h.run.below.trans (hc.below h.run.below.size (fun b hb e => by have := h.wp; omega)), hp, h.run.em.chg hc (fun e => h.ne e.symm)⟩
           row := h.row.chg hc (fun b hb e => by have := h.lp; omega) }
theorem OcMid.putE (h : OcMid w wr B q m bp be np nn Q f g v) (hp : Tide.CntMap Tryz.prog 3 3 w' be (nn + 1) f') (hc : Tide.Chg (fun b => b = be) wr w') : OcMid w w' B q m bp be np (nn + 1) Q f f' v :=
  { h with run := ⟨(h.run.wo.grow hc (fun b e => .inr (.inr e))).mono fun b hb => .inl hb, h.run.below.trans (hc.below h.run.below.size (fun b hb e => by have := h.we; omega)), h.run.pm.chg hc (fun e => h.ne e), hp⟩
           row := h.row.chg hc (fun b hb e => by have := h.le; omega) }
theorem OcMid.more (h : OcMid w wr B q m bp be np nn Q f g v) {np' nn' : Nat} (h1 : np ≤ np') (h2 : nn ≤ nn') : OcMid w wr B q m bp be np' nn' Q f g v :=
  { h with run := { h.run with pm := h.run.pm.mono h1, em := h.run.em.mono h2 } }
end
set_option maxRecDepth 100000 in
set_option maxHeartbeats 25600000 in
theorem topOnce_walk (p : Pln) (A : Option Addr) (cap : Nat) (parts most sec : Int) (A1 : Option Addr) (cap1 : Nat) (l : List (List Int)) (w : World) (ht : Tide.ListIn w 17 Trg.enc (.slice A p.trigs.length cap) p.trigs) (hf : ∀ t ∈ p.trigs, t.fits) (hn : p.name.size ≤ 9223372036854775807) (hl : p.trigs.length ≤ 9223372036854775807)
    (hr : ∀ row ∈ l, row.length = 3 ∧ ∀ x ∈ row, -9223372036854775808 ≤ x ∧ x ≤ 9223372036854775807) (hA : RowsAt w 3 A1 l) (hl1 : l.length ≤ 9223372036854775807) :
    Calls Tryz.prog 4 #[plnV p (.slice A p.trigs.length cap), .int .i64 parts, .int .i64 most, .int .i64 sec, .slice A1 l.length cap1] w fun e w' => e = .returned (.bool true) ∧ Below w.heap.size w w' := by
  have HB := Lib.hid ((Below.refl w.heap.size w).alloc (Nat.le_refl _) (.cells (plnC p (.slice A p.trigs.length cap)) 29))
  have HX := Lib.hid (Tide.At.made w 29 (plnC p (.slice A p.trigs.length cap)))
  have HC := Lib.hid (fun (W : World) (hb : Below w.heap.size w W) => anyNew p A cap parts most sec W (ht.below hb (Nat.le_refl _)) hf hn hl)
  have HA := Lib.hid hA; have HRw := Lib.hid hr
  clear ht hf hn hl hA hr
  have hmm := @run_makeMap Tryz.prog
  unfold plnV
  unfold plnC at HB HX
  go_enter Tryz.func4, Tryz.ntmps4
  go_upto_region 1 with fail
  generalize w.alloc (.cells #[.string p.name, .int .i64 p.mn, .int .i64 p.mx, .int .i64 p.poll, .int .i64 p.cool, .int .i64 p.tol, .int .i64 p.back, .int .i64 p.after, .int .i64 p.shift, .int .i64 p.up.win, .int .i64 p.up.pods, .int .i64 p.up.pct, .int .i64 p.up.per, .int .i64 p.down.win, .int .i64 p.down.pods, .int .i64 p.down.pct, .int .i64 p.down.per, .slice A p.trigs.length cap] 29) = W at HB HX ⊢
  go_wp2_with fail
  refine (topSaid _).mono ?_
  rintro e w1 ⟨rfl, hb1⟩
  have HB1 := Lib.hid (HB.out.trans (hb1.mono HB.out.size))
  have HX1 := Lib.hid (HX.out.below hb1 HX.out.inside)
  have HC1 := Lib.hid (HC.out _ HB1.out)
  clear hb1 HX HC HB
  go_wp2_with (refine wpList_load_row rfl 29 (.tmp 5) rfl w.heap.size rfl 29 _ (0, 0) _ HX1.out Tryz.underlying29 rfl (by kernel_rfl) ?_)
  refine HC1.out.mono ?_
  intro e w2 hp
  clear HC1
  cases hp with
  | bad _ E he h0 hb =>
    have hb1 : (E != 0) = true := by simpa using h0
    have HF := Lib.hid (HB1.out.trans (hb.mono HB1.out.size))
    clear he h0 hb
    go_wp2_with fail
    go_ret
    exact ⟨rfl, HF.out⟩
  | good _ q he hn hok hb =>
    have hB2 := HB1.out.trans (hb.mono HB1.out.size)
    by_cases h60 : 60 < l.length
    · have HF := Lib.hid hB2
      have h60' : (60 : Int) < (l.length : Int) := by omega
      clear he hn hok hb hB2 h60
      go_wp2_with fail
      go_ret
      exact ⟨rfl, HF.out⟩
    · have h60' : (l.length : Int) ≤ 60 := by omega
      have HL60 := Lib.hid (show l.length ≤ 60 by omega)
      have HZ := Lib.hid (show w.heap.size < w1.heap.size from HX1.out.inside)
      have HZ2 := Lib.hid (show w1.heap.size ≤ w2.heap.size from hb.size)
      have HOk := Lib.hid hok
      obtain ⟨hb1, hx1⟩ := hn.boxed (.map #[] 0)
      obtain ⟨hb2, hx2⟩ := hb1.boxed (.map #[] 0)
      have HS := Lib.hid (show OcRun w ((w2.alloc (.map #[] 0)).alloc (.map #[] 0)) w1.heap.size q (newWo p parts most sec) w2.heap.size (w2.heap.size + 1) 0 0 (fun _ => 0) (fun _ => 0) from
        ⟨hb2.mono fun b hb => by
            rcases hb with hb | hb | hb
            · exact .inl (.inl hb)
            · exact .inl (.inr hb)
            · exact .inr (by rw [hb]; simp),
          (hB2.alloc hB2.size _).alloc (hB2.alloc hB2.size _).size _,
          (Tide.CntMap.made Tryz.prog 3 3 w2).chg ((Tide.Chg.refl (fun _ => False) _).alloc _) (fun h => h),
          by have := Tide.CntMap.made Tryz.prog 3 3 (w2.alloc (.map #[] 0)); simpa using this⟩)
      clear he hn hok hb hB2 h60 HB1 HX1 hb1 hx1 hb2 hx2
      go_wp2_with fail
      go_loopw [43] (fun i wr => ∃ k : Nat, k ≤ l.length ∧ i = .int .i64 k ∧ Hid (∃ m f g, OcRun w wr w1.heap.size q m w2.heap.size (w2.heap.size + 1) (200 * k) (200 * k) f g ∧ m.ok (1000 * k) ∧ OcW m f g)) (fun i _ => l.length - (intOf i).toNat)
      case atStart => exact ⟨0, Nat.zero_le _, rfl, Lib.hid ⟨_, _, _, HS.out, HOk.out, onW_new p parts most sec⟩⟩
      case round =>
        clear HS HOk
        obtain ⟨k, hk, rfl, HK⟩ := hrel
        obtain ⟨m, f, g, hK⟩ := HK.out
        have HKm := Lib.hid hK
        clear hK HK
        by_cases hlt : k < l.length
        · obtain ⟨b, off, x, y, z, rfl, c0, c1, c2, hrow, ⟨z0, z1⟩, hbl⟩ := hap_row HA.out HRw.out HKm.out.1.below hlt
          have hk0 : (0 : Int) ≤ (k : Int) := by omega
          have hk1 : (k : Int) < (l.length : Int) := by omega
          have hk60 : k < 60 := by have := HL60.out; omega
          obtain ⟨hb1, hb2⟩ := HKm.out.1.wo.boxed (.cells #[.int .i64 x, .int .i64 y, .int .i64 z] 44)
          have HNn := Lib.hid hb1; have HBx := Lib.hid hb2
          have HLk := Lib.hid (show 1000 * k ≤ 88000 by have := HL60.out; omega)
          clear hb1 hb2 hrow
          go_wp2_with fail
          refine (woDo x y z HNn.out HKm.out.2.1 HLk.out z0 z1).mono ?_
          rintro e w4 ⟨rfl, hc⟩
          have h1 := WoC.unbox HBx.out hc
          have HK4 := Lib.hid (show OcRun w w4 w1.heap.size q (doW m x y z) w2.heap.size (w2.heap.size + 1) (200 * k) (200 * k) f g from ⟨h1.1, HKm.out.1.below.trans (h1.2.below HKm.out.1.below.size (fun j hj h => h (.inl (by have := HZ.out; omega)))), HKm.out.1.pm.chg h1.2 (fun h => h (.inr (.inl rfl))), HKm.out.1.em.chg h1.2 (fun h => h (.inr (.inr rfl)))⟩)
          have HOk := Lib.hid (show (doW m x y z).ok (1000 * (k + 1)) from (ok_do HKm.out.2.1 x y z).up (by omega))
          have HI0 := Lib.hid (HKm.out.2.2.step HKm.out.2.1 x y z)
          generalize doW m x y z = m2 at HK4 HOk HI0
          clear hc h1 c0 c1 c2 HKm HNn HBx
          go_wp2_with fail
          refine (woReqsOf HK4.out.wo).mono ?_
          rintro e w5 ⟨v, rfl, ho, hb5⟩
          obtain ⟨A3, cap3, rfl, hcap3, _, _⟩ := ho.slice
          have HS2 := Lib.hid (show OcMid w w5 w1.heap.size q m2 w2.heap.size (w2.heap.size + 1) (200 * k + 0) (200 * k + 0) w4.heap.size f g (.slice A3 m2.b.length cap3) from ⟨HK4.out.fresh hb5, ho, HK4.out.pm.lt, HK4.out.em.lt, by have := HZ.out; have := HZ2.out; omega, by have := HZ.out; have := HZ2.out; omega, by omega⟩)
          have hbn : (m2.b.length : Int) ≤ 200 := by have := HOk.out.bn; omega
          clear ho hb5 HK4
          go_wp2_with fail
          go_loopw [54] (fun i wr => ∃ j : Nat, j ≤ m2.b.length ∧ i = .int .i64 j ∧ Hid (∃ f g, OcMid w wr w1.heap.size q m2 w2.heap.size (w2.heap.size + 1) (200 * k + j) (200 * k + j) w4.heap.size f g (.slice A3 m2.b.length cap3) ∧ OcI m2 m.b j f g)) (fun i _ => m2.b.length - (intOf i).toNat)
          case atStart => exact ⟨0, Nat.zero_le _, rfl, Lib.hid ⟨_, _, HS2.out, HI0.out⟩⟩
          case round =>
            clear HS2 HI0
            obtain ⟨j, hj, rfl, HJ⟩ := hrel
            obtain ⟨f, g, hJ⟩ := HJ.out
            have HJm := Lib.hid hJ
            clear hJ HJ
            by_cases hjl : j < m2.b.length
            · obtain ⟨r, hrk⟩ := Tide.get_some m2.b hjl
              obtain ⟨b3, cp3, e3, hb3l, c0, c1, c2, c3, c4⟩ := req_cells HJm.out.1.row hrk
              cases e3
              have j0 : (0 : Int) ≤ (j : Int) := by omega
              have j1 : (j : Int) < (m2.b.length : Int) := by omega
              have hid := (HJm.out.2.num j r hrk).1
              obtain ⟨⟨hf1, hf5⟩, hp0, hp1⟩ := HJm.out.2.sized r (List.mem_of_getElem? hrk)
              have hfl : m2.fl ≤ 3000000 := by have := HOk.out.fl1; omega
              have HRk := Lib.hid hrk
              have wfi : (Lit.int .i64 r.id).wf = true := WalkArith.wf_i64 (by omega)
              have wfp : (Lit.int .i64 r.pod).wf = true := WalkArith.wf_i64 (by omega)
              have wff : (Lit.int .i64 r.fate).wf = true := WalkArith.wf_i64 (by omega)
              have HWi := Lib.hid wfi; have HWp := Lib.hid wfp; have HWf := Lib.hid wff; have HId := Lib.hid hid
              clear wfi wfp wff hp0 hp1 hfl hid hrk
              go_upto_if 61 with fail
              have HM := Lib.hid (HJm.out.1.alloc (.cells #[.int .i64 r.id, .int .i64 r.source, .int .i64 r.till, .int .i64 r.fate, .int .i64 r.pod] 55))
              have HBox := Lib.hid (Tide.At.made wr 55 #[.int .i64 r.id, .int .i64 r.source, .int .i64 r.till, .int .i64 r.fate, .int .i64 r.pod])
              have HGb := Lib.hid (show w2.heap.size + 1 < wr.heap.size from HJm.out.1.run.em.lt)
              have HI := Lib.hid HJm.out.2
              clear HJm c0 c1 c2 c3 c4 hb3l
              generalize wr.alloc (.cells #[.int .i64 r.id, .int .i64 r.source, .int .i64 r.till, .int .i64 r.fate, .int .i64 r.pod] 55) = W at HM HBox ⊢
              generalize wr.heap.size = gb at HBox HGb ⊢
              go_cut [] (fun wx => Hid (∃ f', OcMid w wx w1.heap.size q m2 w2.heap.size (w2.heap.size + 1) (200 * k + (j + 1)) (200 * k + j) w4.heap.size f' g (.slice (some ⟨b3, 0, none⟩) m2.b.length cap3) ∧ Tide.At wx gb 55 #[.int .i64 r.id, .int .i64 r.source, .int .i64 r.till, .int .i64 r.fate, .int .i64 r.pod] ∧ Mix podE (j + 1) m.b m2.b f'))
              case first =>
                have x0 := HBox.out.here (i := 0) rfl
                have x4 := HBox.out.here (i := 4) rfl
                have hlk := HM.out.run.pm.look (t := 51) onc_key Tryz.underlying51 Tryz.underlying3 Tryz.underlying3 (onc_zero _) r.id HWi.out
                have hv : f r.id = 0 ∨ f r.id = r.pod := mix_look HI.out.pods HI.out.onces (fun x h => once_pod h) HRk.out HId.out
                by_cases hp : r.pod = 0
                · have hf0 : f r.id = podE r := hv.elim (fun e => e.trans hp.symm) id
                  have hb : (r.pod != 0) = false := by simpa using hp
                  have HF := Lib.hid (show (∃ f', OcMid w W w1.heap.size q m2 w2.heap.size (w2.heap.size + 1) (200 * k + (j + 1)) (200 * k + j) w4.heap.size f' g (.slice (some ⟨b3, 0, none⟩) m2.b.length cap3) ∧ Tide.At W gb 55 #[.int .i64 r.id, .int .i64 r.source, .int .i64 r.till, .int .i64 r.fate, .int .i64 r.pod] ∧ Mix podE (j + 1) m.b m2.b f') from ⟨f, HM.out.more (by omega) (Nat.le_refl _), HBox.out, mix_skip HI.out.pods HRk.out HId.out hf0⟩)
                  clear hv hf0 hlk hp HI
                  go_wp2_with fail
                  go_meet
                  exact HF
                · have hb : (r.pod != 0) = true := by simpa using hp
                  have hbb : (r.pod != r.pod) = false := by simp
                  obtain ⟨w6, hrun, hcm, hch⟩ := HM.out.run.pm.lay (t := 51) onc_key Tryz.underlying51 Tryz.underlying3 Tryz.underlying3 (by simp only [maxLen]; omega) r.id r.pod HWi.out HWp.out
                  have HF := Lib.hid (show (∃ f', OcMid w w6 w1.heap.size q m2 w2.heap.size (w2.heap.size + 1) (200 * k + (j + 1)) (200 * k + j) w4.heap.size f' g (.slice (some ⟨b3, 0, none⟩) m2.b.length cap3) ∧ Tide.At w6 gb 55 #[.int .i64 r.id, .int .i64 r.source, .int .i64 r.till, .int .i64 r.fate, .int .i64 r.pod] ∧ Mix podE (j + 1) m.b m2.b f') from ⟨_, HM.out.putP hcm hch, HBox.out.chg hch (fun e => by have := HGb.out; omega), mix_put HI.out.pods HRk.out HId.out rfl⟩)
                  clear hcm hch hp HI
                  generalize f r.id = fv at hv hlk
                  rcases hv with rfl | rfl
                  · go_wp2_with fail
                    go_meet
                    exact HF
                  · go_wp2_with fail
                    go_meet
                    exact HF
              case rest =>
                obtain ⟨f1, hM, hBox, hP⟩ := hcut.out
                have HM := Lib.hid hM; have HBox := Lib.hid hBox; have HP := Lib.hid hP
                clear hcut hM hBox hP
                have x3 := HBox.out.here (i := 3) rfl
                go_upto_if 83 with fail
                go_cut [] (fun wx => Hid (∃ g', OcMid w wx w1.heap.size q m2 w2.heap.size (w2.heap.size + 1) (200 * k + (j + 1)) (200 * k + (j + 1)) w4.heap.size f1 g' (.slice (some ⟨b3, 0, none⟩) m2.b.length cap3) ∧ Tide.At wx gb 55 #[.int .i64 r.id, .int .i64 r.source, .int .i64 r.till, .int .i64 r.fate, .int .i64 r.pod] ∧ Mix endE (j + 1) m.b m2.b g'))
                case first =>
                  have x0 := HBox.out.here (i := 0) rfl
                  have hlk := HM.out.run.em.look (t := 51) onc_key Tryz.underlying51 Tryz.underlying3 Tryz.underlying3 (onc_zero _) r.id HWi.out
                  have hv : g r.id = 0 ∨ g r.id = endE r := mix_look HI.out.ends HI.out.onces (fun x h => once_end h) HRk.out HId.out
                  by_cases hp : 3 ≤ r.fate
                  · have hE : endE r = r.fate := if_pos hp
                    rw [hE] at hv
                    have hb : (r.fate != 0) = true := by simp; omega
                    have hbb : (r.fate != r.fate) = false := by simp
                    obtain ⟨w6, hrun, hcm, hch⟩ := HM.out.run.em.lay (t := 51) onc_key Tryz.underlying51 Tryz.underlying3 Tryz.underlying3 (by simp only [maxLen]; omega) r.id r.fate HWi.out HWf.out
                    have HF := Lib.hid (show (∃ g', OcMid w w6 w1.heap.size q m2 w2.heap.size (w2.heap.size + 1) (200 * k + (j + 1)) (200 * k + (j + 1)) w4.heap.size f1 g' (.slice (some ⟨b3, 0, none⟩) m2.b.length cap3) ∧ Tide.At w6 gb 55 #[.int .i64 r.id, .int .i64 r.source, .int .i64 r.till, .int .i64 r.fate, .int .i64 r.pod] ∧ Mix endE (j + 1) m.b m2.b g') from ⟨_, HM.out.putE hcm hch, HBox.out.chg hch (fun e => by have := HGb.out; omega), mix_put HI.out.ends HRk.out HId.out hE.symm⟩)
                    clear hcm hch HI HP hE
                    generalize g r.id = gv at hv hlk
                    rcases hv with rfl | rfl
                    · go_wp2_with fail
                      go_meet
                      exact HF
                    · go_wp2_with fail
                      go_meet
                      exact HF
                  · have hE : endE r = 0 := if_neg hp
                    rw [hE] at hv
                    have hv0 : g r.id = 0 := hv.elim id id
                    have HF := Lib.hid (show (∃ g', OcMid w wc w1.heap.size q m2 w2.heap.size (w2.heap.size + 1) (200 * k + (j + 1)) (200 * k + (j + 1)) w4.heap.size f1 g' (.slice (some ⟨b3, 0, none⟩) m2.b.length cap3) ∧ Tide.At wc gb 55 #[.int .i64 r.id, .int .i64 r.source, .int .i64 r.till, .int .i64 r.fate, .int .i64 r.pod] ∧ Mix endE (j + 1) m.b m2.b g') from ⟨g, HM.out.more (Nat.le_refl _) (by omega), HBox.out, mix_skip HI.out.ends HRk.out HId.out (hv0.trans hE.symm)⟩)
                    rw [hv0] at hlk
                    clear hv hE hv0 HI HP
                    go_wp2_with fail
                    go_meet
                    exact HF
                case rest =>
                  obtain ⟨g1, hM, hBox, hE⟩ := hcut.out
                  have HM2 := Lib.hid hM; have HBox2 := Lib.hid hBox
                  have HI2 := Lib.hid (show OcI m2 m.b (j + 1) f1 g1 from ⟨HI.out.late, HI.out.led, HI.out.sized, HI.out.onces, HI.out.num, HP.out, hE⟩)
                  clear hcut hM hBox hE HM HBox HP HI
                  have x3 := HBox2.out.here (i := 3) rfl
                  by_cases k1 : r.fate = 1
                  · have b1 : (r.fate == 1) = true := by simpa using k1
                    clear k1
                    go_wp2_with fail
                    go_roundw
                    case rel => exact ⟨j + 1, by omega, by go_num, Lib.hid ⟨f1, g1, HM2.out, HI2.out⟩⟩
                    case measure => simp [intOf]; omega
                  by_cases k4 : r.fate = 4
                  · have b1 : (r.fate == 1) = false := by simpa using k1
                    have b4 : (r.fate == 4) = true := by simpa using k4
                    clear k1 k4
                    go_wp2_with fail
                    go_roundw
                    case rel => exact ⟨j + 1, by omega, by go_num, Lib.hid ⟨f1, g1, HM2.out, HI2.out⟩⟩
                    case measure => simp [intOf]; omega
                  have b1 : (r.fate == 1) = false := by simpa using k1
                  have b4 : (r.fate == 4) = false := by simpa using k4
                  have HLd := Lib.hid (fun (n : Nat) (x : Tide.Req) (hn : n < j) (hx : m2.b[n]? = some x) (hs : x.source = r.source) => HI2.out.led j r HRk.out k1 k4 n x hn hx hs)
                  have hjc : (j : Int) ≤ (cap3 : Int) := by omega
                  have x1 := HBox2.out.here (i := 1) rfl
                  clear k1 k4
                  go_wp2_with fail
                  go_loopw [120] (fun i wz => ∃ n : Nat, n ≤ j ∧ i = .int .i64 n ∧ Hid (OcMid w wz w1.heap.size q m2 w2.heap.size (w2.heap.size + 1) (200 * k + (j + 1)) (200 * k + (j + 1)) w4.heap.size f1 g1 (.slice (some ⟨b3, 0, none⟩) m2.b.length cap3) ∧ Tide.At wz gb 55 #[.int .i64 r.id, .int .i64 r.source, .int .i64 r.till, .int .i64 r.fate, .int .i64 r.pod])) (fun i _ => j - (intOf i).toNat)
                  case atStart => exact ⟨0, Nat.zero_le _, rfl, Lib.hid ⟨HM2.out, HBox2.out⟩⟩
                  case round =>
                    clear HM2 HBox2 x1 x3
                    obtain ⟨n, hnj, rfl, HN⟩ := hrel
                    by_cases hlt2 : n < j
                    · obtain ⟨x, hxk⟩ := Tide.get_some m2.b (show n < m2.b.length by omega)
                      obtain ⟨b4, cp4, e4, hb4l, c0, c1, c2, c3, c4⟩ := req_cells HN.out.1.row hxk
                      cases e4
                      have n0 : (0 : Int) ≤ (n : Int) := by omega
                      have n1 : (n : Int) < (j : Int) := by omega
                      have n2 : (n : Int) < (m2.b.length : Int) := by omega
                      have x1 := HN.out.2.here (i := 1) rfl
                      have hgbl : gb < wr.heap.size := HN.out.2.inside
                      have HNx := Lib.hid (show (OcMid w (wr.alloc (.cells #[.int .i64 x.id, .int .i64 x.source, .int .i64 x.till, .int .i64 x.fate, .int .i64 x.pod] 55)) w1.heap.size q m2 w2.heap.size (w2.heap.size + 1) (200 * k + (j + 1)) (200 * k + (j + 1)) w4.heap.size f1 g1 (.slice (some ⟨b3, 0, none⟩) m2.b.length cap3) ∧ Tide.At (wr.alloc (.cells #[.int .i64 x.id, .int .i64 x.source, .int .i64 x.till, .int .i64 x.fate, .int .i64 x.pod] 55)) gb 55 #[.int .i64 r.id, .int .i64 r.source, .int .i64 r.till, .int .i64 r.fate, .int .i64 r.pod]) from ⟨HN.out.1.alloc _, HN.out.2.alloc _⟩)
                      have HLx := Lib.hid (HLd.out n x hlt2 hxk)
                      clear HN hxk
                      by_cases hs : x.source = r.source
                      · obtain ⟨e1, e2⟩ := HLx.out hs
                        have bs : (x.source == r.source) = true := by simpa using hs
                        have d1 : (x.fate == 1) = false := by simpa using e1
                        have d2 : (x.fate == 2) = false := by simpa using e2
                        clear hs e1 e2
                        go_wp2_with fail
                        go_roundw
                        case rel => exact ⟨n + 1, by omega, by go_num, HNx⟩
                        case measure => simp [intOf]; omega
                      · have bs : (x.source == r.source) = false := by simpa using hs
                        clear hs
                        go_wp2_with fail
                        go_roundw
                        case rel => exact ⟨n + 1, by omega, by go_num, HNx⟩
                        case measure => simp [intOf]; omega
                    · have hne : n = j := by omega
                      subst hne
                      have HF := Lib.hid HN.out.1
                      clear HN
                      go_wp2_with fail
                      go_roundw
                      case rel => exact ⟨n + 1, by omega, by go_num, Lib.hid ⟨f1, g1, HF.out, HI2.out⟩⟩
                      case measure => simp [intOf]; omega
            · have hje : j = m2.b.length := by omega
              subst hje
              have HN := Lib.hid (show ∃ m f g, OcRun w wr w1.heap.size q m w2.heap.size (w2.heap.size + 1) (200 * (k + 1)) (200 * (k + 1)) f g ∧ m.ok (1000 * (k + 1)) ∧ OcW m f g from
                ⟨m2, f, g, (HJm.out.1.more (by have := HOk.out.bn; omega) (by have := HOk.out.bn; omega)).run, HOk.out, HJm.out.2.done⟩)
              clear HJm
              go_wp2_with fail
              go_roundw
              case rel => exact ⟨k + 1, by omega, by go_num, HN⟩
              case measure => simp [intOf]; omega
        · have HF := Lib.hid HKm.out.1.below
          clear HKm
          go_wp2_with fail
          go_ret
          exact ⟨rfl, HF.out⟩
end Go.Proofs.YtlfaogkdghnmcaaGreat
