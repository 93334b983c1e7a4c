/- The walk of WorldLoads. -/
import Derived.Test.YtlfaogkdghnmcaaGreatWkA
import Derived.Test.YtlfaogkdghnmcaaGreatKeyMap
import Derived.Maps.Keyed
import Derived.Deep.DeepCutAuto
set_option linter.unusedVariables false
set_option linter.unusedSimpArgs false
namespace Go.Proofs.YtlfaogkdghnmcaaGreat
open Go.RowKit Go.Maps
theorem lds_key : Keyed Tryz.prog 3 := int_keyed Tryz.underlying3
theorem lds_zero (w : World) : (zeroValue 3).run Tryz.prog w = .ok (.int .i64 0) w := by kernel_rfl
theorem lds_pod {S : Nat → Prop} {w : World} {v : Value} {l : List Tide.Pod} (h : Tide.OwnRow S w 59 3 v l.length (l.flatMap Tide.Pod.enc)) {k : Nat} {r : Tide.Pod} (hk : l[k]? = some r) :
    ∃ b cap, v = .slice (some ⟨b, 0, none⟩) l.length cap ∧ b < w.heap.size ∧ w.cell? ⟨b, k * 3, none⟩ = some (.int .i64 r.id) ∧ w.cell? ⟨b, k * 3 + 1, none⟩ = some (.int .i64 r.state) ∧ w.cell? ⟨b, k * 3 + 2, none⟩ = some (.int .i64 r.load) := by
  obtain ⟨b, cap, e, hS, h1, h2, h3⟩ := h.form (by have := Tide.get_lt hk; omega)
  exact ⟨b, cap, e, h3.inside, h3.cell (Tide.flat_get (j := 0) Tide.Pod.enc_length hk rfl), h3.cell (Tide.flat_get (j := 1) Tide.Pod.enc_length hk rfl), h3.cell (Tide.flat_get (j := 2) Tide.Pod.enc_length hk rfl)⟩
/-- the world, and the round's map beside it -/
structure LdRun (w wr : World) (B : Nat) (q : Wp) (m : Wo) (bm n : Nat) (ks : List Int) (f : Int → Int) : Prop where
  wo : WoN (fun b => b < B ∨ b = bm) wr q m
  below : Below w.heap.size w wr
  mp : Tide.KeyMap Tryz.prog 3 3 wr bm n ks f
  bm0 : w.heap.size ≤ bm
section
variable {w wr w' : World} {B : Nat} {q : Wp} {m : Wo} {bm n n' : Nat} {ks ks' : List Int} {f f' : Int → Int}
theorem LdRun.fresh (h : LdRun w wr B q m bm n ks f) (hb : Below wr.heap.size wr w') : LdRun w w' B q m bm n ks f :=
  ⟨h.wo.below hb, h.below.trans (hb.mono h.below.size), h.mp.chg (Tide.Chg.of_below (S := fun _ => False) hb (Nat.le_refl _)) (fun h => h), h.bm0⟩
theorem LdRun.alloc (h : LdRun w wr B q m bm n ks f) (o : Obj) : LdRun w (wr.alloc o) B q m bm n ks f := h.fresh ((Below.refl _ _).alloc (Nat.le_refl _) o)
theorem LdRun.put (h : LdRun w wr B q m bm n ks f) (hp : Tide.KeyMap Tryz.prog 3 3 w' bm n' ks' f') (hc : Tide.Chg (fun b => b = bm) wr w') : LdRun w w' B q m bm n' ks' f' :=
  ⟨(h.wo.grow hc (fun b e => .inr e)).mono fun b hb => .inl hb, h.below.trans (hc.below h.below.size (fun b hb e => by have := h.bm0; omega)), hp, h.bm0⟩
theorem LdRun.as (h : LdRun w wr B q m bm n ks f) (hn : n ≤ n') (e : f = f') : LdRun w wr B q m bm n' ks f' := e ▸ ⟨h.wo, h.below, h.mp.mono hn, h.bm0⟩
end
set_option maxRecDepth 100000 in
set_option maxHeartbeats 25600000 in
theorem worldLoads_walk (p : Pln) (A : Option Addr) (cap : Nat) (parts most sec : Int) (A1 : Option Addr) (cap1 : Nat) (l : List (List Int)) (w : World) (ht : Tide.ListIn w 17 Trg.enc (.slice A p.trigs.length cap) p.trigs) (hf : ∀ t ∈ p.trigs, t.fits) (hn : p.name.size ≤ 9223372036854775807) (hl : p.trigs.length ≤ 9223372036854775807)
    (hr : ∀ row ∈ l, row.length = 3 ∧ ∀ x ∈ row, -9223372036854775808 ≤ x ∧ x ≤ 9223372036854775807) (hA : RowsAt w 3 A1 l) (hl1 : l.length ≤ 9223372036854775807) :
    Calls Tryz.prog 6 #[plnV p (.slice A p.trigs.length cap), .int .i64 parts, .int .i64 most, .int .i64 sec, .slice A1 l.length cap1] w fun e w' => e = .returned (.bool true) ∧ Below w.heap.size w w' := by
  have HB := Lib.hid ((Below.refl w.heap.size w).alloc (Nat.le_refl _) (.cells (plnC p (.slice A p.trigs.length cap)) 29))
  have HX := Lib.hid (Tide.At.made w 29 (plnC p (.slice A p.trigs.length cap)))
  have HC := Lib.hid (fun (W : World) (hb : Below w.heap.size w W) => anyNew p A cap parts most sec W (ht.below hb (Nat.le_refl _)) hf hn hl)
  have HA := Lib.hid hA; have HRw := Lib.hid hr
  clear ht hf hn hl hA hr
  have hmm := @run_makeMap Tryz.prog
  unfold plnV
  unfold plnC at HB HX
  go_enter Tryz.func6, Tryz.ntmps6
  go_upto_region 1 with fail
  generalize w.alloc (.cells #[.string p.name, .int .i64 p.mn, .int .i64 p.mx, .int .i64 p.poll, .int .i64 p.cool, .int .i64 p.tol, .int .i64 p.back, .int .i64 p.after, .int .i64 p.shift, .int .i64 p.up.win, .int .i64 p.up.pods, .int .i64 p.up.pct, .int .i64 p.up.per, .int .i64 p.down.win, .int .i64 p.down.pods, .int .i64 p.down.pct, .int .i64 p.down.per, .slice A p.trigs.length cap] 29) = W at HB HX ⊢
  go_wp2_with fail
  refine (keepWorks _).mono ?_
  rintro e w1 ⟨rfl, hb1⟩
  have HB1 := Lib.hid (HB.out.trans (hb1.mono HB.out.size))
  have HX1 := Lib.hid (HX.out.below hb1 HX.out.inside)
  have HC1 := Lib.hid (HC.out _ HB1.out)
  clear hb1 HX HC HB
  go_wp2_with (refine wpList_load_row rfl 29 (.tmp 5) rfl w.heap.size rfl 29 _ (0, 0) _ HX1.out Tryz.underlying29 rfl (by kernel_rfl) ?_)
  refine HC1.out.mono ?_
  intro e w2 hp
  clear HC1
  cases hp with
  | bad _ E he h0 hb =>
    have hb1 : (E != 0) = true := by simpa using h0
    have HF := Lib.hid (HB1.out.trans (hb.mono HB1.out.size))
    clear he h0 hb
    go_wp2_with fail
    go_ret
    exact ⟨rfl, HF.out⟩
  | good _ q he hn hok hb =>
    have hB2 := HB1.out.trans (hb.mono HB1.out.size)
    by_cases h60 : 60 < l.length
    · have HF := Lib.hid hB2
      have h60' : (60 : Int) < (l.length : Int) := by omega
      clear he hn hok hb hB2 h60
      go_wp2_with fail
      go_ret
      exact ⟨rfl, HF.out⟩
    · have h60' : (l.length : Int) ≤ 60 := by omega
      have HL60 := Lib.hid (show l.length ≤ 60 by omega)
      have HZ := Lib.hid (show w.heap.size < w1.heap.size from HX1.out.inside)
      have HZ2 := Lib.hid (show w1.heap.size ≤ w2.heap.size from hb.size)
      have HOk := Lib.hid hok
      have HS := Lib.hid (show WoN (fun b => b < w1.heap.size) w2 q (newWo p parts most sec) ∧ Below w.heap.size w w2 ∧ (newWo p parts most sec).ok (1000 * 0) ∧ LoadsOk (newWo p parts most sec).b (newWo p parts most sec).f from ⟨hn, hB2, hok, loads_new⟩)
      clear he hn hok hb hB2 h60 HB1 HX1 HOk HZ2
      go_wp2_with fail
      go_loopw [42] (fun i wr => ∃ k : Nat, k ≤ l.length ∧ i = .int .i64 k ∧ Hid (∃ m, WoN (fun b => b < w1.heap.size) wr q m ∧ Below w.heap.size w wr ∧ m.ok (1000 * k) ∧ LoadsOk m.b m.f)) (fun i _ => l.length - (intOf i).toNat)
      case atStart => exact ⟨0, Nat.zero_le _, rfl, Lib.hid ⟨_, HS.out⟩⟩
      case round =>
        clear HS
        obtain ⟨k, hk, rfl, HK⟩ := hrel
        obtain ⟨m, hK⟩ := HK.out
        have HKm := Lib.hid hK
        clear hK HK
        by_cases hlt : k < l.length
        · obtain ⟨b, off, x, y, z, rfl, c0, c1, c2, hrow, ⟨z0, z1⟩, hbl⟩ := hap_row HA.out HRw.out HKm.out.2.1 hlt
          have hk0 : (0 : Int) ≤ (k : Int) := by omega
          have hk1 : (k : Int) < (l.length : Int) := by omega
          have hk60 : k < 60 := by have := HL60.out; omega
          obtain ⟨hb1, hb2⟩ := HKm.out.1.boxed (.cells #[.int .i64 x, .int .i64 y, .int .i64 z] 44)
          have HNn := Lib.hid hb1; have HBx := Lib.hid hb2
          have HLk := Lib.hid (show 1000 * k ≤ 88000 by have := HL60.out; omega)
          clear hb1 hb2 hrow
          go_wp2_with fail
          refine (woDo x y z HNn.out HKm.out.2.2.1 HLk.out z0 z1).mono ?_
          rintro e w4 ⟨rfl, hc⟩
          have h1 := WoC.unbox HBx.out hc
          have hB4 := HKm.out.2.1.trans (h1.2.below HKm.out.2.1.size (fun j hj h => h (by have := HZ.out; omega)))
          have HOk := Lib.hid (show (doW m x y z).ok (1000 * (k + 1)) from (ok_do HKm.out.2.2.1 x y z).up (by omega))
          have HLo := Lib.hid (loads_do HKm.out.2.2.1 HKm.out.2.2.2 x y z)
          obtain ⟨hm1, hm2⟩ := h1.1.boxed (.map #[] 0)
          have HK4 := Lib.hid (show LdRun w (w4.alloc (.map #[] 0)) w1.heap.size q (doW m x y z) w4.heap.size 0 [] (fun _ => 0) from ⟨hm1, hB4.alloc hB4.size _, Tide.KeyMap.made _ _ _ _, hB4.size⟩)
          generalize doW m x y z = m2 at HK4 HOk HLo
          clear hc h1 hB4 hm1 hm2 c0 c1 c2 HKm HNn HBx
          go_upto_region 11 with fail
          generalize w4.alloc (.map #[] 0) = w4m at HK4 ⊢
          generalize w4.heap.size = bm at HK4 ⊢
          go_wp2_with fail
          refine (woReqsOf HK4.out.wo).mono ?_
          rintro e w5 ⟨v, rfl, ho, hb5⟩
          obtain ⟨A3, cap3, rfl, hcap3, _, _⟩ := ho.slice
          have HS2 := Lib.hid (show ∃ ks, LdRun w w5 w1.heap.size q m2 bm 0 ks (runsAt (m2.b.take 0)) ∧ Tide.OwnRow (fun b => w4m.heap.size ≤ b) w5 55 5 (.slice A3 m2.b.length cap3) m2.b.length (m2.b.flatMap Tide.Req.enc) ∧ Tide.Cnt ks (runsAt (m2.b.take 0)) (runN (m2.b.take 0)) from
            ⟨[], (HK4.out.fresh hb5).as (Nat.le_refl _) rfl, ho, Tide.Cnt.new⟩)
          have HBm := Lib.hid (show bm < w4m.heap.size from HK4.out.mp.lt)
          have hbn : (m2.b.length : Int) ≤ 200 := by have := HOk.out.bn; omega
          clear ho hb5 HK4
          go_wp2_with fail
          go_loopw [53] (fun i wr => ∃ j : Nat, j ≤ m2.b.length ∧ i = .int .i64 j ∧ Hid (∃ ks, LdRun w wr w1.heap.size q m2 bm j ks (runsAt (m2.b.take j)) ∧ Tide.OwnRow (fun b => w4m.heap.size ≤ b) wr 55 5 (.slice A3 m2.b.length cap3) m2.b.length (m2.b.flatMap Tide.Req.enc) ∧ Tide.Cnt ks (runsAt (m2.b.take j)) (runN (m2.b.take j)))) (fun i _ => m2.b.length - (intOf i).toNat)
          case atStart => exact ⟨0, Nat.zero_le _, rfl, HS2⟩
          case round =>
            clear HS2
            obtain ⟨j, hj, rfl, HJ⟩ := hrel
            obtain ⟨ks, hJ⟩ := HJ.out
            have HJm := Lib.hid hJ
            clear hJ HJ
            by_cases hjl : j < m2.b.length
            · obtain ⟨r, hrk⟩ := Tide.get_some m2.b hjl
              obtain ⟨b3, cp3, e3, hb3l, c0, c1, c2, c3, c4⟩ := req_cells HJm.out.2.1 hrk
              cases e3
              have j0 : (0 : Int) ≤ (j : Int) := by omega
              have j1 : (j : Int) < (m2.b.length : Int) := by omega
              by_cases h2 : r.fate = 2
              · obtain ⟨s1, s2⟩ := runs_snoc hrk h2
                obtain ⟨pd, hpd, hpid⟩ := HLo.out.there r (List.mem_of_getElem? hrk) h2
                have hpb := HOk.out.crew.ids pd hpd
                have hfl1 := HOk.out.fl1
                have wfp : (Lit.int .i64 r.pod).wf = true := WalkArith.wf_i64 (by omega)
                have hbd := runsAt_bd (m2.b.take j) r.pod
                have hlen := List.length_take_le' j m2.b
                have h0 : 0 ≤ runsAt (m2.b.take j) r.pod := hbd.1
                have h9 : runsAt (m2.b.take j) r.pod ≤ 200 := by omega
                have wfv : (Lit.int .i64 (runsAt (m2.b.take j) r.pod + 1)).wf = true := WalkArith.wf_i64 (by omega)
                have hA1 := HJm.out.1.alloc (.cells #[.int .i64 r.id, .int .i64 r.source, .int .i64 r.till, .int .i64 r.fate, .int .i64 r.pod] 55)
                have hlk := hA1.mp.cnt.look (t := 51) lds_key Tryz.underlying51 Tryz.underlying3 Tryz.underlying3 (lds_zero _) r.pod wfp
                obtain ⟨w6, hrun, hcm, hch⟩ := hA1.mp.lay (t := 51) lds_key Tryz.underlying51 Tryz.underlying3 Tryz.underlying3 (by simp only [maxLen]; omega) r.pod (runsAt (m2.b.take j) r.pod + 1) wfp wfv
                have HN := Lib.hid (show ∃ ks, LdRun w w6 w1.heap.size q m2 bm (j + 1) ks (runsAt (m2.b.take (j + 1))) ∧ Tide.OwnRow (fun b => w4m.heap.size ≤ b) w6 55 5 (.slice (some ⟨b3, 0, none⟩) m2.b.length cap3) m2.b.length (m2.b.flatMap Tide.Req.enc) ∧ Tide.Cnt ks (runsAt (m2.b.take (j + 1))) (runN (m2.b.take (j + 1))) from
                  ⟨_, (hA1.put hcm hch).as (Nat.le_refl _) s1.symm, (HJm.out.2.1.alloc _).chg hch (fun b hb e => by have := HBm.out; omega), by rw [s1, s2]; exact HJm.out.2.2.put r.pod⟩)
                rw [h2] at c3 hlk hrun
                generalize runsAt (m2.b.take j) r.pod = fv at hlk hrun h0 h9
                clear s1 s2 hpd hpid hpb hfl1 wfp hbd hlen wfv hA1 hcm hch hrk HJm h2
                go_wp2_with fail
                go_roundw
                case rel => exact ⟨j + 1, by omega, by go_num, HN⟩
                case measure => simp [intOf]; omega
              · obtain ⟨s1, s2⟩ := runs_skip hrk h2
                have hb2 : (r.fate == 2) = false := by simpa using h2
                have HN := Lib.hid (show ∃ ks, LdRun w (wr.alloc (.cells #[.int .i64 r.id, .int .i64 r.source, .int .i64 r.till, .int .i64 r.fate, .int .i64 r.pod] 55)) w1.heap.size q m2 bm (j + 1) ks (runsAt (m2.b.take (j + 1))) ∧ Tide.OwnRow (fun b => w4m.heap.size ≤ b) (wr.alloc (.cells #[.int .i64 r.id, .int .i64 r.source, .int .i64 r.till, .int .i64 r.fate, .int .i64 r.pod] 55)) 55 5 (.slice (some ⟨b3, 0, none⟩) m2.b.length cap3) m2.b.length (m2.b.flatMap Tide.Req.enc) ∧ Tide.Cnt ks (runsAt (m2.b.take (j + 1))) (runN (m2.b.take (j + 1))) from
                  ⟨ks, (HJm.out.1.alloc _).as (by omega) s1.symm, HJm.out.2.1.alloc _, by rw [s1, s2]; exact HJm.out.2.2⟩)
                clear s1 s2 hrk HJm h2
                go_wp2_with fail
                go_roundw
                case rel => exact ⟨j + 1, by omega, by go_num, HN⟩
                case measure => simp [intOf]; omega
            · have hje : j = m2.b.length := by omega
              subst hje
              have h3 := HJm.out
              rw [List.take_length] at h3
              obtain ⟨hR, _, hC⟩ := h3
              have HR := Lib.hid hR; have HCn := Lib.hid hC
              clear HJm hR hC
              go_wp2_with fail
              refine (woPodsOf HR.out.wo).mono ?_
              rintro e w7 ⟨v, rfl, ho, hb7⟩
              obtain ⟨A4, cap4, rfl, _, _, _⟩ := ho.slice
              have HR7 := Lib.hid (HR.out.fresh hb7); have HO := Lib.hid ho
              have hfn : (m2.f.length : Int) ≤ 4000000 := by
                have hq1 : m2.f.length ≤ 50 * (1000 * (k + 1)) := HOk.out.fn
                omega
              have HLd := Lib.hid (show ∀ p ∈ m2.f, 0 ≤ p.load ∧ p.load ≤ 100 from fun p hp => by have := HOk.out.crew.loads p hp; have := HOk.out.most1; omega)
              have HSm := Lib.hid (fun j => show 0 ≤ Tide.sumL (m2.f.take j) ∧ Tide.sumL (m2.f.take j) ≤ 400000000 from by
                have h1 := Tide.sumL_bd (f := m2.f.take j) (fun p hp => HLd.out p (List.mem_of_mem_take hp))
                have h2 := List.length_take_le' j m2.f
                omega)
              clear ho hb7 HR
              go_wp2_with fail
              go_loopw [18, 69] (fun s i wz => ∃ j : Nat, j ≤ m2.f.length ∧ i = .int .i64 j ∧ s = .int .i64 (Tide.sumL (m2.f.take j)) ∧ Hid (LdRun w wz w1.heap.size q m2 bm m2.b.length ks (runsAt m2.b) ∧ Below w7.heap.size w7 wz)) (fun _ i _ => m2.f.length - (intOf i).toNat)
              case atStart => exact ⟨0, Nat.zero_le _, rfl, rfl, Lib.hid ⟨HR7.out, Below.refl _ _⟩⟩
              case round =>
                clear HR7
                obtain ⟨j, hj, rfl, rfl, HJ⟩ := hrel
                obtain ⟨lv0, lv1⟩ := HSm.out j
                by_cases hjl : j < m2.f.length
                · obtain ⟨r, hrk⟩ := Tide.get_some m2.f hjl
                  obtain ⟨b3, cp3, e3, hb3l, d0, d1, d2⟩ := lds_pod HO.out hrk
                  cases e3
                  have j0 : (0 : Int) ≤ (j : Int) := by omega
                  have j1 : (j : Int) < (m2.f.length : Int) := by omega
                  have c0 := (HJ.out.2.cell (p := ⟨b3, j * 3, none⟩) hb3l).trans d0
                  have c1 := (HJ.out.2.cell (p := ⟨b3, j * 3 + 1, none⟩) hb3l).trans d1
                  have c2 := (HJ.out.2.cell (p := ⟨b3, j * 3 + 2, none⟩) hb3l).trans d2
                  have hb3w : b3 < wr.heap.size := Nat.lt_of_lt_of_le hb3l HJ.out.2.size
                  have hA1 := HJ.out.1.alloc (.cells #[.int .i64 r.id, .int .i64 r.state, .int .i64 r.load] 59)
                  have HNx := Lib.hid (show LdRun w (wr.alloc (.cells #[.int .i64 r.id, .int .i64 r.state, .int .i64 r.load] 59)) w1.heap.size q m2 bm m2.b.length ks (runsAt m2.b) ∧ Below w7.heap.size w7 (wr.alloc (.cells #[.int .i64 r.id, .int .i64 r.state, .int .i64 r.load] 59)) from ⟨hA1, HJ.out.2.alloc HJ.out.2.size _⟩)
                  have HSn := Lib.hid (Tide.sumL_snoc hrk)
                  have hmem := List.mem_of_getElem? hrk
                  have hids := HOk.out.crew.ids r hmem
                  have hfl1 := HOk.out.fl1
                  have hld := hA1.mp.cnt.look (t := 51) lds_key Tryz.underlying51 Tryz.underlying3 Tryz.underlying3 (lds_zero _) r.id (WalkArith.wf_i64 (by omega))
                  rw [← HLo.out.load r hmem] at hld
                  obtain ⟨r0, r1⟩ := HLd.out r hmem
                  have hbb : (r.load != r.load) = false := by simp
                  clear d0 d1 d2 hrk HJ hA1 hmem hids hfl1
                  go_wp2_with fail
                  go_roundw
                  case rel => exact ⟨j + 1, by omega, by go_num, by rw [HSn.out], HNx⟩
                  case measure => simp [intOf]; omega
                · have hje : j = m2.f.length := by omega
                  subst hje
                  have HR7 := Lib.hid HJ.out.1
                  have HSum := Lib.hid (show Tide.sumL (m2.f.take m2.f.length) = ((ks.filter (fun k => decide (k ∈ ks))).map (runsAt m2.b)).sum by
                    rw [List.take_length, HLo.out.sum, List.filter_eq_self.2 (fun k hk => by simpa using hk)]; exact HCn.out.sum.symm)
                  have HNb := Lib.hid (show Tide.sumL (m2.f.take m2.f.length) ≤ 200 by rw [List.take_length, HLo.out.sum]; have := (runN_bd m2.b).2; omega)
                  clear HJ
                  generalize Tide.sumL (m2.f.take m2.f.length) = v at HSum HNb lv0 lv1 ⊢
                  obtain ⟨D, hO, h2, h3, h4⟩ := HR7.out.mp
                  have HO2 := Lib.hid hO; have H3 := Lib.hid h3; have H4 := Lib.hid h4
                  clear hO h2 h3 h4
                  obtain ⟨w7z, rfl⟩ : ∃ w7z, w7z = wr := ⟨_, rfl⟩
                  have HW := Lib.hid HR7.out.wo; have HBl := Lib.hid HR7.out.below
                  have HKs := Lib.hid HCn.out.nodup
                  clear HR7
                  go_wp2_with (at_range; refine wpList_range_own _ rfl _ 51 rfl 3 3 lds_key Tryz.underlying51 _ bm m2.b.length _ rfl HO2.out ?_; intro w8 hrg0 hg0 hs0)
                  go_frame
                  have HS8 := Lib.hid (show v = ((ks.filter (fun k => Maps.has D (.int .i64 k))).map (runsAt m2.b)).sum by rw [HSum.out]; congr 2; exact List.filter_congr fun k _ => (H4.out k).symm)
                  have HC8 := Lib.hid ((Tide.Chg.refl (fun _ => False) w7z).grown hg0 (fun g hg => by cases hg))
                  have lv2 := HNb.out
                  clear HSum lv1
                  go_loopw [18] (fun s wz => ∃ (left : Lit → Bool) (cnt : Nat) (v : Int), wz.ranges Tryz.prog 3 (plainElem Tryz.prog 3) bm w7z.heap.size m2.b.length D left cnt ∧ s = .int .i64 v ∧ 0 ≤ v ∧ v ≤ 200 ∧ Hid (v = ((ks.filter (fun k => left (.int .i64 k))).map (runsAt m2.b)).sum) ∧ Hid (Tide.Chg (fun _ => False) w7z wz)) (fun _ wz => wz.rangeLeft bm w7z.heap.size)
                  case atStart => exact ⟨_, _, v, hrg0, rfl, lv0, lv2, HS8, HC8⟩
                  case round =>
                    clear hrg0 hg0 hs0 HC8 HS8 HNb lv2 lv0
                    obtain ⟨left, cnt, v, hrg, rfl, lv0, lv2, HL, HC⟩ := hrel
                    go_wp2_with (at_next; refine wpList_next_ranges_ii _ rfl _ rfl 3 3 .i64 .i64 lds_key Tryz.underlying3 Tryz.underlying3 bm w7z.heap.size m2.b.length _ _ _ rfl hrg ?_ ?_)
                    · intro hc0 hl0
                      have hv0 : v = 0 := by
                        have := HL.out
                        rw [List.filter_eq_nil_iff.2 (fun k _ => by rw [hl0]; simp)] at this
                        exact this
                      subst hv0
                      have hBz : Below w7z.heap.size w7z wr := HC.out.below (Nat.le_refl _) (fun _ _ h => h)
                      have HN := Lib.hid (show ∃ m, WoN (fun b => b < w1.heap.size) wr q m ∧ Below w.heap.size w wr ∧ m.ok (1000 * (k + 1)) ∧ LoadsOk m.b m.f from ⟨m2, (HW.out.below hBz).mono fun b hb => .inl hb, HBl.out.trans (hBz.mono HBl.out.size), HOk.out, HLo.out⟩)
                      clear hBz lv0 lv2 HL HC hrg hc0 hl0
                      go_wp2_with fail
                      go_roundw
                      case rel => exact ⟨k + 1, by omega, by go_num, HN⟩
                      case measure => simp [intOf]; omega
                    · intro x y w9 cnt1 hwx hwc hlx hat hrg1 hlt hg1 hs1 hen
                      have HC1 := Lib.hid (HC.out.grown hg1 (fun g hg => by cases hg; exact .inr (Nat.le_refl _)))
                      have hfx : y = runsAt m2.b x := by
                        have := hat (.lit (.int .i64 0))
                        rw [H3.out] at this
                        injection this with e; injection e with _ e
                        exact e.symm
                      have hxk : x ∈ ks := by
                        by_cases c : x ∈ ks
                        · exact c
                        · have hh : Maps.has D (.int .i64 x) = false := by rw [H4.out x]; simpa using c
                          have e1 := hat (.lit (.int .i64 0))
                          have e2 := hat (.lit (.int .i64 1))
                          rw [atKey_of_not_has hh] at e1 e2
                          have e3 := e1.trans e2.symm
                          injection e3 with e; injection e with _ e
                          cases e
                      have hfl : (fun k : Int => (fun z : Lit => left z && !z.sameKey (.int .i64 x)) (.int .i64 k)) = fun k : Int => (left (.int .i64 k)) && !(k == x) := by
                        funext k
                        by_cases e : k = x
                        · subst e; simp [Lit.sameKey]
                        · have : (Lit.int .i64 k).sameKey (.int .i64 x) = false := sameKey_ne (fun c => e (by injection c))
                          have e' : (k == x) = false := by simp [e]
                          simp [this, e']
                      have hbd := runsAt_bd m2.b x
                      have hy0 : 0 ≤ y := by omega
                      have hy1 : y ≤ 200 := by omega
                      have HL1 := Lib.hid (show v - y = ((ks.filter (fun k => (fun z : Lit => left z && !z.sameKey (.int .i64 x)) (.int .i64 k))).map (runsAt m2.b)).sum by
                        rw [hfl, Tide.sum_less (p := fun k => left (.int .i64 k)) hlx HKs.out hxk, ← HL.out, hfx])
                      have hv9 : 0 ≤ v - y := by rw [HL1.out]; exact Tide.sum_nn (fun k => (runsAt_bd m2.b k).1) _
                      clear hfl hat hfx hxk hbd
                      go_wp2_with fail
                      go_roundw
                      case rel => exact ⟨_, cnt1, v - y, hrg1, by go_num, hv9, by omega, HL1, HC1⟩
                      case measure => rw [hrg1.left_eq, hrg.left_eq]; exact hlt
        · have HF := Lib.hid HKm.out.2.1
          clear HKm
          go_wp2_with fail
          go_ret
          exact ⟨rfl, HF.out⟩
end Go.Proofs.YtlfaogkdghnmcaaGreat
