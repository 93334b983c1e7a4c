/- The walk of WorldTicks. -/
import Derived.Test.YtlfaogkdghnmcaaGreatWkA
import Derived.Test.YtlfaogkdghnmcaaGreatTwoW
import Derived.Test.YtlfaogkdghnmcaaGreatEqs
import Derived.Test.YtlfaogkdghnmcaaGreatRestC
set_option linter.unusedVariables false
set_option linter.unusedSimpArgs false
namespace Go.Proofs.YtlfaogkdghnmcaaGreat
open Go.RowKit
def TkRun (w wr : World) (qa qb : Wp) (ma mb : Wo) : Prop := TwoW (fun b => b < w.heap.size) wr qa ma qb mb ∧ Below w.heap.size w wr
theorem TkRun.below {w wr w' : World} {qa qb : Wp} {ma mb : Wo} (h : TkRun w wr qa qb ma mb) (hb : Below wr.heap.size wr w') : TkRun w w' qa qb ma mb := ⟨h.1.below hb, h.2.trans (hb.mono h.2.size)⟩
theorem TkRun.chg {w wr w' : World} {qa qb : Wp} {ma mb : Wo} (h : TkRun w wr qa qb ma mb) (hc : Tide.Chg (fun _ => False) wr w') : TkRun w w' qa qb ma mb := ⟨h.1.chg hc, h.2.trans (hc.below h.2.size (fun _ _ h => h))⟩
/-- an own row in what is new between two worlds, behind a step that leaves that alone -/
theorem _root_.Tide.OwnRow.list2 {T : TypeId} {k n : Nat} {v : Value} {xs : List Value} {w w1 w2 : World} {R : Nat → Prop} (h : Tide.OwnRow (fun b => w.heap.size ≤ b) w1 T k v n xs) (hc : Tide.Chg (fun b => ¬ R b) w1 w2) (hR : ∀ b, w.heap.size ≤ b ∧ b < w1.heap.size → R b) : Tide.OwnRow (fun b => w.heap.size ≤ b) w2 T k v n xs :=
  ((h.mono (S' := fun b => w.heap.size ≤ b ∧ b < w1.heap.size) (fun g hg hs => ⟨hs, hg⟩)).chg hc (fun g hg hn => hn (hR g hg))).mono (fun g _ hs => hs.1)
set_option maxRecDepth 100000 in
set_option maxHeartbeats 12800000 in
theorem worldTicks_walk (p : Pln) (A : Option Addr) (cap : Nat) (parts most sec : Int) (A1 : Option Addr) (cap1 : Nat) (l : List (List Int)) (n : Int) (w : World) (ht : Tide.ListIn w 17 Trg.enc (.slice A p.trigs.length cap) p.trigs) (hf : ∀ t ∈ p.trigs, t.fits) (hn : p.name.size ≤ 9223372036854775807) (hl : p.trigs.length ≤ 9223372036854775807)
    (hr : ∀ row ∈ l, row.length = 3 ∧ ∀ x ∈ row, -9223372036854775808 ≤ x ∧ x ≤ 9223372036854775807) (hA : RowsAt w 3 A1 l) (hl1 : l.length ≤ 9223372036854775807) :
    Calls Tryz.prog 7 #[plnV p (.slice A p.trigs.length cap), .int .i64 parts, .int .i64 most, .int .i64 sec, .slice A1 l.length cap1, .int .i64 n] w fun e w' => e = .returned (.bool true) ∧ Below w.heap.size w w' := by
  have HB := Lib.hid ((Below.refl w.heap.size w).alloc (Nat.le_refl _) (.cells (plnC p (.slice A p.trigs.length cap)) 29))
  have HX := Lib.hid (Tide.At.made w 29 (plnC p (.slice A p.trigs.length cap)))
  have HC := Lib.hid (fun (W : World) (hb : Below w.heap.size w W) => anyNew p A cap parts most sec W (ht.below hb (Nat.le_refl _)) hf hn hl)
  have HA := Lib.hid hA; have HRw := Lib.hid hr
  clear ht hf hn hl hA hr
  unfold plnV
  unfold plnC at HB HX
  go_enter Tryz.func7, Tryz.ntmps7
  go_upto_region 1 with fail
  generalize w.alloc (.cells #[.string p.name, .int .i64 p.mn, .int .i64 p.mx, .int .i64 p.poll, .int .i64 p.cool, .int .i64 p.tol, .int .i64 p.back, .int .i64 p.after, .int .i64 p.shift, .int .i64 p.up.win, .int .i64 p.up.pods, .int .i64 p.up.pct, .int .i64 p.up.per, .int .i64 p.down.win, .int .i64 p.down.pods, .int .i64 p.down.pct, .int .i64 p.down.per, .slice A p.trigs.length cap] 29) = W at HB HX ⊢
  go_wp2_with fail
  refine (keepWorks _).mono ?_
  rintro e w1 ⟨rfl, hb1⟩
  have HB1 := Lib.hid (HB.out.trans (hb1.mono HB.out.size))
  have HX1 := Lib.hid (HX.out.below hb1 HX.out.inside)
  have HC1 := Lib.hid (HC.out _ HB1.out)
  clear hb1 HX HB
  go_wp2_with (refine wpList_load_row rfl 29 (.tmp 6) rfl w.heap.size rfl 29 _ (0, 0) _ HX1.out Tryz.underlying29 rfl (by kernel_rfl) ?_)
  refine HC1.out.mono ?_
  intro e w2 hp
  clear HC1
  cases hp with
  | bad _ E he h0 hb =>
    have hb1 : (E != 0) = true := by simpa using h0
    have HB2 := Lib.hid (HB1.out.trans (hb.mono HB1.out.size))
    have HX2 := Lib.hid (HX1.out.below hb HX1.out.inside)
    have HC2 := Lib.hid (HC.out _ HB2.out)
    have HEE := Lib.hid he
    clear he h0 hb HB1 HX1 HC
    go_wp2_with (refine wpList_load_row rfl 29 (.tmp 6) rfl w.heap.size rfl 29 _ (0, 0) _ HX2.out Tryz.underlying29 rfl (by kernel_rfl) ?_)
    refine HC2.out.mono ?_
    intro e w3 hp
    clear HC2 HX2
    cases hp with
    | bad _ E' he h0 hb =>
      have HF := Lib.hid (HB2.out.trans (hb.mono HB2.out.size))
      obtain rfl : E = E' := HEE.out.symm.trans he
      clear he h0 hb HEE
      go_wp2_with fail
      go_ret
      exact ⟨rfl, HF.out⟩
    | good _ q he hn hok hb =>
      exfalso
      rw [HEE.out] at he
      rw [he] at hb1; simp at hb1
  | good _ qa he hn hok hb =>
    have HB2 := Lib.hid (HB1.out.trans (hb.mono HB1.out.size))
    have HX2 := Lib.hid (HX1.out.below hb HX1.out.inside)
    have HC2 := Lib.hid (HC.out _ HB2.out)
    have HEE := Lib.hid he
    have HNa := Lib.hid (hn.mono (R' := fun b => b < w.heap.size) fun b hb2 => Nat.lt_of_lt_of_le hb2 HB1.out.size)
    clear he hn hb HB1 HX1 HC
    go_wp2_with (refine wpList_load_row rfl 29 (.tmp 6) rfl w.heap.size rfl 29 _ (0, 0) _ HX2.out Tryz.underlying29 rfl (by kernel_rfl) ?_)
    refine HC2.out.mono ?_
    intro e w3 hp
    clear HC2 HX2
    cases hp with
    | bad _ E' he h0 hb =>
      exfalso
      rw [HEE.out] at he
      exact h0 he.symm
    | good _ qb he hn hok2 hb =>
      have HT0 := Lib.hid (show TkRun w w3 qa qb (newWo p parts most sec) (newWo p parts most sec) from ⟨TwoW.made HNa.out (fun b hb => Nat.lt_of_lt_of_le hb HB2.out.size) hn hb, HB2.out.trans (hb.mono HB2.out.size)⟩)
      have HOk := Lib.hid hok
      clear he hn hok hok2 hb HB2 HNa HEE
      by_cases h60 : 60 < l.length
      · have h60' : (60 : Int) < (l.length : Int) := by omega
        have HF := Lib.hid HT0.out.2
        clear h60 HT0
        go_wp2_with fail
        go_ret
        exact ⟨rfl, HF.out⟩
      · have h60' : (l.length : Int) ≤ 60 := by omega
        have HL60 := Lib.hid (show l.length ≤ 60 by omega)
        clear h60
        go_wp2_with fail
        go_loopw [54] (fun i wr => ∃ k : Nat, k ≤ l.length ∧ i = .int .i64 k ∧ Hid (TkRun w wr qa qb (playW (newWo p parts most sec) (l.take k)) (playW (newWo p parts most sec) (l.take k)))) (fun i _ => l.length - (intOf i).toNat)
        case atStart => exact ⟨0, Nat.zero_le _, rfl, HT0⟩
        case round =>
          clear HT0
          obtain ⟨k, hk, rfl, HK⟩ := hrel
          by_cases hlt : k < l.length
          · obtain ⟨b, off, x, y, z, rfl, c0, c1, c2, hrow, ⟨z0, z1⟩, hbl⟩ := hap_row HA.out HRw.out HK.out.2 hlt
            have hk0 : (0 : Int) ≤ (k : Int) := by omega
            have hk1 : (k : Int) < (l.length : Int) := by omega
            have HRow := Lib.hid (play_snoc (m := newWo p parts most sec) hrow)
            obtain ⟨hb1, hb2⟩ := HK.out.1.boxed (.cells #[.int .i64 x, .int .i64 y, .int .i64 z] 44)
            have hX : Tide.At (wr.alloc (.cells #[.int .i64 x, .int .i64 y, .int .i64 z] 44)) wr.heap.size 44 #[.int .i64 x, .int .i64 y, .int .i64 z] := Tide.At.made wr _ _
            have HXx := Lib.hid hX
            have HN := Lib.hid hb1; have HBx := Lib.hid (HK.out.2.trans (hb2.below HK.out.2.size (fun j hj h => h hj)))
            have HOkk := Lib.hid (ok_play HOk.out (l.take k))
            have HLk := Lib.hid (show 0 + 1000 * (l.take k).length ≤ 88000 by have := HL60.out; rw [List.length_take]; omega)
            have HEq := Lib.hid (show stepW (playW (newWo p parts most sec) (l.take k)) [x, y, z] = doW (playW (newWo p parts most sec) (l.take k)) x y z from rfl)
            obtain ⟨R1, hw1, hs1, hst1⟩ := hb1.left
            have HW1 := Lib.hid hw1; have HS1 := Lib.hid hst1
            clear hb1 hb2 hX hrow hw1 hs1 hst1 HK
            go_wp2_with fail
            refine (woDo x y z HW1.out HOkk.out HLk.out z0 z1).mono ?_
            rintro e w4 ⟨rfl, hc⟩
            obtain ⟨hT4, hch⟩ := HS1.out _ _ hc
            have HX4 := At.kept HXx.out hch (.inr rfl)
            have HB4 := Lib.hid (HBx.out.trans (hch.below HBx.out.size (fun j hj h => h (.inl hj))))
            obtain ⟨R2, hw2, hs2, hst2⟩ := hT4.right
            have HW2 := Lib.hid hw2; have HS2 := Lib.hid hst2
            have y0 := HX4.here (i := 0) rfl
            have y1 := HX4.here (i := 1) rfl
            have y2 := HX4.here (i := 2) rfl
            clear hc hT4 hch hw2 hs2 hst2 HW1 HS1 c0 c1 c2
            go_wp2_with fail
            refine (woDo x y z HW2.out HOkk.out HLk.out z0 z1).mono ?_
            rintro e w5 ⟨rfl, hc⟩
            obtain ⟨hT5, hch⟩ := HS2.out _ _ hc
            have HNx := Lib.hid (show TkRun w w5 qa qb (playW (newWo p parts most sec) (l.take (k + 1))) (playW (newWo p parts most sec) (l.take (k + 1))) from by
              rw [HRow.out, HEq.out]
              exact ⟨hT5.mono fun _ hb => .inl hb, HB4.out.trans (hch.below HB4.out.size (fun j hj h => h (.inl hj)))⟩)
            clear hc hT5 hch HX4 y0 y1 y2 HW2 HS2
            go_wp2_with fail
            go_roundw
            case rel => exact ⟨k + 1, by omega, by go_num, HNx⟩
            case measure => simp [intOf]; omega
          · have hke : k = l.length := by omega
            subst hke
            have HT := HK.out
            rw [List.take_length] at HT
            have HT1 := Lib.hid HT
            have HOkm := Lib.hid ((ok_play HOk.out l).up (k := 60000) (by have := HL60.out; omega))
            have HNow := Lib.hid (show (playW (newWo p parts most sec) l).now ≤ 60000 by
              have h1 := play_now HOk.out l
              have h2 : (newWo p parts most sec).now = 0 := rfl
              have := HL60.out
              omega)
            clear HT HK
            generalize playW (newWo p parts most sec) l = m at HT1 HOkm HNow
            go_wp2_with fail
            refine (restC n 30 _ (by omega) (by omega)).mono ?_
            rintro e w' ⟨rfl, rfl⟩
            obtain ⟨N, hN⟩ := Int.eq_ofNat_of_zero_le (show 0 ≤ n % 30 by omega)
            have hN30 : (N : Int) < 30 := by omega
            rw [hN]
            have HN30 := Lib.hid hN30
            clear hN
            have hN0 : (0 : Int) ≤ (N : Int) := by omega
            go_upto_region 14 with fail
            obtain ⟨R1, hw1, hs1, hst1⟩ := HT1.out.1.left
            have HW1 := Lib.hid hw1; have HS1 := Lib.hid hst1
            clear hw1 hs1 hst1
            go_wp2_with fail
            refine (woDo 1 0 ((N : Int) + 1) HW1.out HOkm.out (by omega) (by omega) (by omega)).mono ?_
            rintro e w6 ⟨rfl, hc⟩
            obtain ⟨hT6, hch⟩ := HS1.out _ _ hc
            have HTk := Lib.hid (show doW m 1 0 ((N : Int) + 1) = ticksN (N + 1) m from ticks_once (n := N + 1) (by omega) (by have := HN30.out; omega) (by have := HNow.out; have := HN30.out; omega))
            rw [HTk.out] at hT6
            have HT6 := Lib.hid (show TkRun w w6 qa qb (ticksN (N + 1) m) (ticksN 0 m) from ⟨hT6, HT1.out.2.trans (hch.below HT1.out.2.size (fun j hj h => h hj))⟩)
            clear hc hT6 hch HW1 HS1 HT1
            go_wp2_with fail
            go_loopw [73] (fun i wr => ∃ j : Nat, j ≤ N + 1 ∧ i = .int .i64 j ∧ Hid (TkRun w wr qa qb (ticksN (N + 1) m) (ticksN j m))) (fun i _ => N + 1 - (intOf i).toNat)
            case atStart => exact ⟨0, Nat.zero_le _, rfl, HT6⟩
            case round =>
              clear HT6
              obtain ⟨j, hj, rfl, HJ⟩ := hrel
              by_cases hjl : j < N + 1
              · have j0 : (0 : Int) ≤ (j : Int) := by omega
                have j1 : (j : Int) < (N : Int) + 1 := by omega
                obtain ⟨R2, hw2, hs2, hst2⟩ := HJ.out.1.right
                have HW2 := Lib.hid hw2; have HS2 := Lib.hid hst2
                have HOkj := Lib.hid (ok_ticks HOkm.out j (by have := HNow.out; have := HN30.out; omega))
                have HTj := Lib.hid (show doW (ticksN j m) 1 0 1 = ticksN (j + 1) m from ticks_one (by rw [ticks_now]; have := HNow.out; have := HN30.out; omega))
                clear hw2 hs2 hst2
                go_wp2_with fail
                refine (woDo 1 0 1 HW2.out HOkj.out (by have := HN30.out; omega) (by omega) (by omega)).mono ?_
                rintro e w7 ⟨rfl, hc⟩
                obtain ⟨hT7, hch⟩ := HS2.out _ _ hc
                rw [HTj.out] at hT7
                have HNx := Lib.hid (show TkRun w w7 qa qb (ticksN (N + 1) m) (ticksN (j + 1) m) from ⟨hT7, HJ.out.2.trans (hch.below HJ.out.2.size (fun i hi h => h hi))⟩)
                clear hc hT7 hch HW2 HS2 HJ
                go_wp2_with fail
                go_roundw
                case rel => exact ⟨j + 1, by omega, by go_num, HNx⟩
                case measure => simp [intOf]; omega
              · have hje : j = N + 1 := by omega
                subst hje
                have HOkz := Lib.hid (ok_ticks HOkm.out (N + 1) (by have := HNow.out; have := HN30.out; omega))
                have HZ := HJ
                have HFn := Lib.hid (show (ticksN (N + 1) m).f.length ≤ 100000000 by have := HOkz.out.fn; have := HN30.out; omega)
                generalize ticksN (N + 1) m = mz at HZ HOkz HFn
                clear HJ
                go_wp2_with fail
                refine (woNow HZ.out.1.one).mono ?_
                rintro e w' ⟨rfl, rfl⟩
                go_wp2_with fail
                refine (woNow HZ.out.1.two).mono ?_
                rintro e w' ⟨rfl, rfl⟩
                go_wp2_with fail
                refine (woTarget HZ.out.1.one).mono ?_
                rintro e w' ⟨rfl, rfl⟩
                go_wp2_with fail
                refine (woTarget HZ.out.1.two).mono ?_
                rintro e w' ⟨rfl, rfl⟩
                have HZ1 := HZ
                go_wp2_with fail
                refine (woPodsOf HZ1.out.1.one).mono ?_
                rintro e wa1 ⟨va1, rfl, ho, hb⟩
                obtain ⟨Aa1, ca1, rfl, _⟩ := ho.slice
                have HLa1 := Lib.hid (ho.list Tide.Pod.enc_length)
                have HZa1 := Lib.hid (HZ1.out.below hb)
                clear ho hb HZ1
                go_wp2_with fail
                refine (woPodsOf HZa1.out.1.two).mono ?_
                rintro e wb1 ⟨vb1, rfl, ho, hb⟩
                obtain ⟨Ab1, cb1, rfl, _⟩ := ho.slice
                have HLb1 := Lib.hid (ho.list Tide.Pod.enc_length)
                have HLc1 := Lib.hid (HLa1.out.below hb (Nat.le_refl _))
                have HZb1 := Lib.hid (HZa1.out.below hb)
                clear ho hb HZa1 HLa1
                go_wp2_with fail
                refine (epod_equal _ _ mz.f _ HLc1.out HLb1.out (HFn.out)).mono ?_
                rintro e wc1 ⟨rfl, hc⟩
                have HZ2 := Lib.hid (HZb1.out.chg hc)
                clear hc HLb1 HLc1 HZb1
                go_wp2_with fail
                refine (woReqsOf HZ2.out.1.one).mono ?_
                rintro e wa2 ⟨va2, rfl, ho, hb⟩
                obtain ⟨Aa2, ca2, rfl, _⟩ := ho.slice
                have HLa2 := Lib.hid (ho.list Tide.Req.enc_length)
                have HZa2 := Lib.hid (HZ2.out.below hb)
                clear ho hb HZ2
                go_wp2_with fail
                refine (woReqsOf HZa2.out.1.two).mono ?_
                rintro e wb2 ⟨vb2, rfl, ho, hb⟩
                obtain ⟨Ab2, cb2, rfl, _⟩ := ho.slice
                have HLb2 := Lib.hid (ho.list Tide.Req.enc_length)
                have HLc2 := Lib.hid (HLa2.out.below hb (Nat.le_refl _))
                have HZb2 := Lib.hid (HZa2.out.below hb)
                clear ho hb HZa2 HLa2
                go_wp2_with fail
                refine (ereq_equal _ _ mz.b _ HLc2.out HLb2.out (by have := HOkz.out.bn; omega)).mono ?_
                rintro e wc2 ⟨rfl, hc⟩
                have HZ3 := Lib.hid (HZb2.out.chg hc)
                clear hc HLb2 HLc2 HZb2
                obtain ⟨R3, hw3, hs3, hst3⟩ := HZ3.out.1.leftN
                have HW3 := Lib.hid hw3; have HS3 := Lib.hid hst3
                clear hw3 hs3 hst3
                go_wp2_with fail
                refine (woMsgsOf HW3.out).mono ?_
                rintro e wm ⟨vm, rfl, ho, hn3, hc3⟩
                obtain ⟨Am, cm, rfl, _⟩ := ho.slice
                obtain ⟨hT, hch⟩ := HS3.out _ _ hn3 hc3
                have HLm := Lib.hid ho
                have HTm := Lib.hid hT
                have HBm := Lib.hid (HZ3.out.2.trans (hch.below HZ3.out.2.size (fun i hi h => h hi)))
                obtain ⟨R4, hw4, hs4, hst4⟩ := hT.right
                have HW4 := Lib.hid hw4; have HS4 := Lib.hid hst4
                have HZs := Lib.hid HZ3.out.2.size
                clear ho hn3 hc3 hT hch hw4 hs4 hst4 HW3 HS3
                go_wp2_with fail
                refine (woMsgsOf HW4.out).mono ?_
                rintro e wn ⟨vn, rfl, ho, hn4, hc4⟩
                obtain ⟨An, cn, rfl, _⟩ := ho.slice
                have hC4 := HS4.out wn _ ⟨hn4.mono fun _ hb => .inl hb, hc4⟩
                have HLn := Lib.hid (ho.list Tide.Msg.enc_length)
                have HLp := Lib.hid ((HLm.out.list2 hC4.2 fun b hb => .inr hb).list Tide.Msg.enc_length)
                have HBn := Lib.hid (HBm.out.trans (hC4.2.below HBm.out.size (fun i hi h => h (.inl hi))))
                clear ho hn4 hc4 hC4 HW4 HS4
                go_wp2_with fail
                refine (emsg_equal _ _ (Tide.allLst mz.q mz.now) _ HLp.out HLn.out (by
                  have := HOkz.out.qn
                  unfold Tide.allLst; split
                  · unfold Tide.backAll; rw [List.length_map]; omega
                  · simp)).mono ?_
                rintro e wz ⟨rfl, hc⟩
                have HF := Lib.hid (HBn.out.trans (hc.below HBn.out.size (fun _ _ h => h)))
                clear hc HLn HLp
                go_wp2_with fail
                go_ret
                exact ⟨rfl, HF.out⟩
end Go.Proofs.YtlfaogkdghnmcaaGreat
