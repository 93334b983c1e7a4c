/- The walk of TopBounds. -/
import Derived.Test.YtlfaogkdghnmcaaGreatTpC
import Derived.Test.YtlfaogkdghnmcaaGreatWldP
import Derived.Test.YtlfaogkdghnmcaaGreatTpB
set_option linter.unusedVariables false
set_option linter.unusedSimpArgs false
namespace Go.Proofs.YtlfaogkdghnmcaaGreat
open Go.RowKit
theorem pod_cells {S : Nat → Prop} {w : World} {v : Value} {l : List Tide.Pod} (h : Tide.OwnRow S w 59 3 v l.length (l.flatMap Tide.Pod.enc)) {k : Nat} {r : Tide.Pod} (hk : l[k]? = some r) :
    ∃ b cap, v = .slice (some ⟨b, 0, none⟩) l.length cap ∧ b < w.heap.size ∧ w.cell? ⟨b, k * 3, none⟩ = some (.int .i64 r.id) ∧ w.cell? ⟨b, k * 3 + 1, none⟩ = some (.int .i64 r.state) ∧ w.cell? ⟨b, k * 3 + 2, none⟩ = some (.int .i64 r.load) := by
  obtain ⟨b, cap, e, hS, h1, h2, h3⟩ := h.form (by have := Tide.get_lt hk; omega)
  exact ⟨b, cap, e, h3.inside, h3.cell (Tide.flat_get (j := 0) Tide.Pod.enc_length hk rfl), h3.cell (Tide.flat_get (j := 1) Tide.Pod.enc_length hk rfl), h3.cell (Tide.flat_get (j := 2) Tide.Pod.enc_length hk rfl)⟩
theorem live_snoc {f : List Tide.Pod} {k : Nat} {r : Tide.Pod} (h : f[k]? = some r) : Tide.liveN (f.take (k + 1)) = Tide.liveN (f.take k) + if r.state = 4 then 0 else 1 := by
  rw [Tide.take_of_get h]
  unfold Tide.liveN
  rw [List.countP_append, List.countP_singleton]
  by_cases c : r.state = 4
  · simp [Tide.lives, c]
  · simp [Tide.lives, c]
theorem woTarget' {R : Nat → Prop} {p : Wp} {m : Wo} {w : World} (h : WoN R w p m) : Calls Tryz.prog 19 #[.pointer (some ⟨p.g, 0, none⟩)] w fun e w' => e = .returned (.int .i64 m.target) ∧ w' = w :=
  (woTarget h).mono fun _ _ ⟨a, b⟩ => ⟨a, b.symm⟩
def BdRun (w wr : World) (B : Nat) (R : Nat → Prop) (cs : Array Value) (q : Wp) (p : Pln) (k : Nat) (m : Wo) : Prop := WoN R wr q m ∧ Below w.heap.size w wr ∧ Tide.At wr B 29 cs ∧ m.ok (1000 * k) ∧ Bds p m
set_option maxRecDepth 100000 in
set_option maxHeartbeats 12800000 in
theorem topBounds_walk (p : Pln) (A : Option Addr) (cap : Nat) (parts most sec : Int) (A1 : Option Addr) (cap1 : Nat) (l : List (List Int)) (w : World) (ht : Tide.ListIn w 17 Trg.enc (.slice A p.trigs.length cap) p.trigs) (hf : ∀ t ∈ p.trigs, t.fits) (hn : p.name.size ≤ 9223372036854775807) (hl : p.trigs.length ≤ 9223372036854775807)
    (hr : ∀ row ∈ l, row.length = 3 ∧ ∀ x ∈ row, -9223372036854775808 ≤ x ∧ x ≤ 9223372036854775807) (hA : RowsAt w 3 A1 l) (hl1 : l.length ≤ 9223372036854775807) :
    Calls Tryz.prog 10 #[plnV p (.slice A p.trigs.length cap), .int .i64 parts, .int .i64 most, .int .i64 sec, .slice A1 l.length cap1] w fun e w' => e = .returned (.bool true) ∧ Below w.heap.size w w' := by
  have HB := Lib.hid ((Below.refl w.heap.size w).alloc (Nat.le_refl _) (.cells (plnC p (.slice A p.trigs.length cap)) 29))
  have HX := Lib.hid (Tide.At.made w 29 (plnC p (.slice A p.trigs.length cap)))
  have HC := Lib.hid (fun (W : World) (hb : Below w.heap.size w W) => anyNew p A cap parts most sec W (ht.below hb (Nat.le_refl _)) hf hn hl)
  have HA := Lib.hid hA; have HRw := Lib.hid hr
  clear ht hf hn hl hA hr
  unfold plnV
  unfold plnC at HB HX
  go_enter Tryz.func10, Tryz.ntmps10
  go_upto_region 1 with fail
  generalize w.alloc (.cells #[.string p.name, .int .i64 p.mn, .int .i64 p.mx, .int .i64 p.poll, .int .i64 p.cool, .int .i64 p.tol, .int .i64 p.back, .int .i64 p.after, .int .i64 p.shift, .int .i64 p.up.win, .int .i64 p.up.pods, .int .i64 p.up.pct, .int .i64 p.up.per, .int .i64 p.down.win, .int .i64 p.down.pods, .int .i64 p.down.pct, .int .i64 p.down.per, .slice A p.trigs.length cap] 29) = W at HB HX ⊢
  go_wp2_with fail
  refine (topSaid _).mono ?_
  rintro e w1 ⟨rfl, hb1⟩
  have HB1 := Lib.hid (HB.out.trans (hb1.mono HB.out.size))
  have HX1 := Lib.hid (HX.out.below hb1 HX.out.inside)
  have HC1 := Lib.hid (HC.out _ HB1.out)
  clear hb1 HX HC HB
  go_wp2_with (refine wpList_load_row rfl 29 (.tmp 5) rfl w.heap.size rfl 29 _ (0, 0) _ HX1.out Tryz.underlying29 rfl (by kernel_rfl) ?_)
  refine HC1.out.mono ?_
  intro e w2 hp
  clear HC1
  cases hp with
  | bad _ E he h0 hb =>
    have hb1 : (E != 0) = true := by simpa using h0
    have HF := Lib.hid (HB1.out.trans (hb.mono HB1.out.size))
    clear he h0 hb
    go_wp2_with fail
    go_ret
    exact ⟨rfl, HF.out⟩
  | good _ q he hn hok hb =>
    have hB2 := HB1.out.trans (hb.mono HB1.out.size)
    by_cases h60 : 60 < l.length
    · have HF := Lib.hid hB2
      have h60' : (60 : Int) < (l.length : Int) := by omega
      clear he hn hok hb hB2 h60
      go_wp2_with fail
      go_ret
      exact ⟨rfl, HF.out⟩
    · have h60' : (l.length : Int) ≤ 60 := by omega
      have HPE := Lib.hid (show planE p = 0 by
        unfold newE at he
        by_cases c : planE p = 0
        · exact c
        · rw [if_pos c] at he; exact absurd he c)
      have HL60 := Lib.hid (show l.length ≤ 60 by omega)
      have HB2 := Lib.hid hB2; have HN := Lib.hid hn; have HOk := Lib.hid hok
      have HX2 := Lib.hid (HX1.out.below hb HX1.out.inside)
      have HZ := Lib.hid (show w.heap.size < w1.heap.size from HX1.out.inside)
      clear he hn hok hb hB2 h60 HB1 HX1
      go_wp2_with fail
      refine (topPaused A1 cap1 l _ HRw.out (HA.out.below HB2.out (Nat.le_refl _)) (by have := HL60.out; omega)).mono ?_
      rintro e w3 ⟨rfl, hb3⟩
      have HB3 := Lib.hid (HB2.out.trans (hb3.mono HB2.out.size))
      cases hpz : pausedB l
      case true =>
        clear hb3
        go_wp2_with fail
        go_ret
        exact ⟨rfl, HB3.out⟩
      case false =>
        have HNo := Lib.hid hpz
        have HS := Lib.hid (show BdRun w w3 w.heap.size (fun b => b < w1.heap.size) _ q p 0 _ from ⟨HN.out.below hb3, HB3.out, HX2.out.below hb3 HX2.out.inside, HOk.out, bds_new HPE.out⟩)
        clear hpz hb3 HB2 HN HOk HX2
        go_wp2_with fail
        go_loopw [41] (fun i wr => ∃ k : Nat, k ≤ l.length ∧ i = .int .i64 k ∧ Hid (∃ m : Wo, BdRun w wr w.heap.size (fun b => b < w1.heap.size) #[.string p.name, .int .i64 p.mn, .int .i64 p.mx, .int .i64 p.poll, .int .i64 p.cool, .int .i64 p.tol, .int .i64 p.back, .int .i64 p.after, .int .i64 p.shift, .int .i64 p.up.win, .int .i64 p.up.pods, .int .i64 p.up.pct, .int .i64 p.up.per, .int .i64 p.down.win, .int .i64 p.down.pods, .int .i64 p.down.pct, .int .i64 p.down.per, .slice A p.trigs.length cap] q p k m)) (fun i _ => l.length - (intOf i).toNat)
        case atStart => exact ⟨0, Nat.zero_le _, rfl, Lib.hid ⟨_, HS.out⟩⟩
        case round =>
          clear HS HB3
          obtain ⟨k, hk, rfl, HK⟩ := hrel
          obtain ⟨m, hK⟩ := HK.out
          have HKm := Lib.hid hK
          clear hK HK
          by_cases hlt : k < l.length
          · obtain ⟨b, off, x, y, z, rfl, c0, c1, c2, hrow, ⟨z0, z1⟩, hbl⟩ := hap_row HA.out HRw.out HKm.out.2.1 hlt
            have hk0 : (0 : Int) ≤ (k : Int) := by omega
            have hk1 : (k : Int) < (l.length : Int) := by omega
            obtain ⟨hb1, hb2⟩ := HKm.out.1.boxed (.cells #[.int .i64 x, .int .i64 y, .int .i64 z] 44)
            have HNn := Lib.hid hb1; have HBx := Lib.hid hb2
            have HX13 := Lib.hid (paused_no HNo.out hrow)
            have HLk := Lib.hid (show 1000 * k ≤ 88000 by have := HL60.out; omega)
            clear hb1 hb2 hrow
            go_wp2_with fail
            refine (woDo x y z HNn.out HKm.out.2.2.2.1 HLk.out z0 z1).mono ?_
            rintro e w4 ⟨rfl, hc⟩
            have h1 := WoC.unbox HBx.out hc
            have HK4 := Lib.hid (show BdRun w w4 w.heap.size (fun b => b < w1.heap.size) _ q p (k + 1) (doW m x y z) from ⟨h1.1, HKm.out.2.1.trans (h1.2.below HKm.out.2.1.size (fun j hj h => h (by have := HZ.out; omega))), At.kept HKm.out.2.2.1 h1.2 HZ.out, (ok_do HKm.out.2.2.2.1 x y z).up (by omega), bds_do HKm.out.2.2.2.1 HKm.out.2.2.2.2 x y z HX13.out⟩)
            generalize doW m x y z = m2 at HK4
            clear hc h1 c0 c1 c2 HKm HNn HBx
            go_wp2_with fail
            refine (woPodsOf HK4.out.1).mono ?_
            rintro e w5 ⟨v, rfl, ho, hb5⟩
            obtain ⟨A3, cap3, rfl, _, _, _⟩ := ho.slice
            have HO := Lib.hid ho
            have HK5 := Lib.hid (show BdRun w w5 w.heap.size (fun b => b < w1.heap.size) _ q p (k + 1) m2 from ⟨HK4.out.1.below hb5, HK4.out.2.1.trans (hb5.mono HK4.out.2.1.size), HK4.out.2.2.1.below hb5 HK4.out.2.2.1.inside, HK4.out.2.2.2⟩)
            have hfn : (m2.f.length : Int) ≤ 4000000 := by
              have hq1 : m2.f.length ≤ 50 * (1000 * (k + 1)) := HK4.out.2.2.2.1.fn
              have hq2 := HL60.out
              omega
            have HS2 := Lib.hid (show WoN (fun b => b < w1.heap.size) w5 q m2 ∧ Below w5.heap.size w5 w5 from ⟨HK5.out.1, Below.refl _ _⟩)
            have HLive := Lib.hid (show ∀ j, 0 ≤ Tide.liveN (m2.f.take j) ∧ Tide.liveN (m2.f.take j) ≤ 4000000 from fun j => ⟨Tide.liveN_nn _, by
              have h1 := List.countP_le_length (p := Tide.lives) (l := m2.f.take j)
              have h2 := List.length_take_le' j m2.f
              unfold Tide.liveN; omega⟩)
            clear ho hb5 HK4
            go_wp2_with fail
            go_loopw [15, 51] (fun n i wz => ∃ j : Nat, j ≤ m2.f.length ∧ i = .int .i64 j ∧ n = .int .i64 (Tide.liveN (m2.f.take j)) ∧ Hid (WoN (fun b => b < w1.heap.size) wz q m2 ∧ Below w5.heap.size w5 wz)) (fun _ i _ => m2.f.length - (intOf i).toNat)
            case atStart => exact ⟨0, Nat.zero_le _, rfl, rfl, HS2⟩
            case round =>
              clear HS2
              obtain ⟨j, hj, rfl, rfl, HJ⟩ := hrel
              obtain ⟨lv0, lv1⟩ := HLive.out j
              by_cases hjl : j < m2.f.length
              · obtain ⟨r, hrk⟩ := Tide.get_some m2.f hjl
                obtain ⟨b3, cp3, e3, hb3l, d0, d1, d2⟩ := pod_cells HO.out hrk
                cases e3
                have j0 : (0 : Int) ≤ (j : Int) := by omega
                have j1 : (j : Int) < (m2.f.length : Int) := by omega
                have c0 := (HJ.out.2.cell (p := ⟨b3, j * 3, none⟩) hb3l).trans d0
                have c1 := (HJ.out.2.cell (p := ⟨b3, j * 3 + 1, none⟩) hb3l).trans d1
                have c2 := (HJ.out.2.cell (p := ⟨b3, j * 3 + 2, none⟩) hb3l).trans d2
                have hb3w : b3 < wr.heap.size := Nat.lt_of_lt_of_le hb3l HJ.out.2.size
                have HNx := Lib.hid (show WoN (fun b => b < w1.heap.size) (wr.alloc (.cells #[.int .i64 r.id, .int .i64 r.state, .int .i64 r.load] 59)) q m2 ∧ Below w5.heap.size w5 (wr.alloc (.cells #[.int .i64 r.id, .int .i64 r.state, .int .i64 r.load] 59)) from ⟨HJ.out.1.alloc _, HJ.out.2.alloc HJ.out.2.size _⟩)
                have HSn := Lib.hid (live_snoc hrk)
                clear d0 d1 d2 hrk HJ
                by_cases hs : r.state = 4
                · have HSn2 := Lib.hid (show Tide.liveN (m2.f.take (j + 1)) = Tide.liveN (m2.f.take j) by rw [HSn.out, if_pos hs]; omega)
                  rw [hs] at c1 HNx
                  clear hs HSn
                  go_wp2_with fail
                  go_roundw
                  case rel => exact ⟨j + 1, by omega, by go_num, by rw [HSn2.out], HNx⟩
                  case measure => simp [intOf]; omega
                · have hsb : (r.state != 4) = true := by simpa using hs
                  have HSn2 := Lib.hid (show Tide.liveN (m2.f.take (j + 1)) = Tide.liveN (m2.f.take j) + 1 by rw [HSn.out, if_neg hs])
                  clear hs HSn
                  go_wp2_with fail
                  go_roundw
                  case rel => exact ⟨j + 1, by omega, by go_num, by rw [HSn2.out], HNx⟩
                  case measure => simp [intOf]; omega
              · have hje : j = m2.f.length := by omega
                subst hje
                have HBd := Lib.hid HK5.out.2.2.2.2
                have x2 : wr.cell? ⟨w.heap.size, 2, none⟩ = some (.int .i64 p.mx) := (HK5.out.2.2.1.below HJ.out.2 HK5.out.2.2.1.inside).here (i := 2) rfl
                have x1 : wr.cell? ⟨w.heap.size, 1, none⟩ = some (.int .i64 p.mn) := (HK5.out.2.2.1.below HJ.out.2 HK5.out.2.2.1.inside).here (i := 1) rfl
                have n1 : decide (p.mx < Tide.liveN (m2.f.take m2.f.length)) = false := by rw [List.take_length]; have := HBd.out.live; simpa using this
                have n2 : decide (p.mx < m2.target) = false := by have := HBd.out.top; simpa using this
                have HNr := Lib.hid HJ.out.1
                have HFin := Lib.hid (fun n => show BdRun w (wr.drewN n) w.heap.size (fun b => b < w1.heap.size) _ q p (k + 1) m2 from ⟨HJ.out.1.drewN n, below_drewN (HK5.out.2.1.trans (HJ.out.2.mono HK5.out.2.1.size)) n, (HK5.out.2.2.1.below HJ.out.2 HK5.out.2.2.1.inside).drewN n, HK5.out.2.2.2⟩)
                clear HJ HK5
                generalize Tide.liveN (m2.f.take m2.f.length) = lv at n1 lv0 lv1 ⊢
                by_cases hnow : 0 < m2.now
                · have n3 : decide (m2.target < p.mn) = false := by have := HBd.out.bot hnow; simpa using this
                  have n4 : decide (0 < m2.now) = true := decide_eq_true hnow
                  clear hnow
                  go_wp2_with fail
                  go_quiet (first | (go_at_call 19; exact Calls.quiet_of_same (woTarget' (HNr.out.drewN _))) | (go_at_call 23; exact Calls.quiet_of_same (woNow' (HNr.out.drewN _))))
                  go_wp2_with fail
                  go_roundw
                  case rel => exact ⟨k + 1, by omega, by go_num, Lib.hid ⟨_, HFin.out _⟩⟩
                  case measure => simp [intOf]; omega
                · have n4 : decide (0 < m2.now) = false := decide_eq_false hnow
                  clear hnow
                  go_wp2_with fail
                  go_quiet (first | (go_at_call 19; exact Calls.quiet_of_same (woTarget' (HNr.out.drewN _))) | (go_at_call 23; exact Calls.quiet_of_same (woNow' (HNr.out.drewN _))))
                  go_wp2_with fail
                  go_roundw
                  case rel => exact ⟨k + 1, by omega, by go_num, Lib.hid ⟨_, HFin.out _⟩⟩
                  case measure => simp [intOf]; omega
          · have HF := Lib.hid HKm.out.2.1
            clear HKm
            go_wp2_with fail
            go_ret
            exact ⟨rfl, HF.out⟩
end Go.Proofs.YtlfaogkdghnmcaaGreat
