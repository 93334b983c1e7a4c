/- The walk of TopLate. -/
import Derived.Test.YtlfaogkdghnmcaaGreatTpP
import Derived.Deep.QuietTactic
import Derived.BigQuiet
set_option linter.unusedVariables false
set_option linter.unusedSimpArgs false
namespace Go.Proofs.YtlfaogkdghnmcaaGreat
open Go.RowKit
theorem late_play {p : Pln} {parts most sec : Int} (h : (newWo p parts most sec).ok 0) (l : List (List Int)) : ∀ r ∈ (playW (newWo p parts most sec) l).b, LateOk (playW (newWo p parts most sec) l).now r :=
  play_inv (P := fun m => ∀ r ∈ m.b, LateOk m.now r) h (fun r hr => (by cases hr)) (fun m j k a n hm hp => lateOk_do hm hp k a n) l
theorem woNow' {R : Nat → Prop} {p : Wp} {m : Wo} {w : World} (h : WoN R w p m) : Calls Tryz.prog 23 #[.pointer (some ⟨p.g, 0, none⟩)] w fun e w' => e = .returned (.int .i64 m.now) ∧ w' = w :=
  (woNow h).mono fun _ _ ⟨a, b⟩ => ⟨a, b.symm⟩
theorem WoN.drewN {R : Nat → Prop} {p : Wp} {m : Wo} {w : World} (h : WoN R w p m) (n : Nat) : WoN R (w.drewN n) p m := h.below ⟨rfl, rfl, rfl, Nat.le_refl _, fun _ _ => rfl⟩
set_option maxRecDepth 100000 in
set_option maxHeartbeats 12800000 in
theorem topLate_walk (p : Pln) (A : Option Addr) (cap : Nat) (parts most sec : Int) (A1 : Option Addr) (cap1 : Nat) (l : List (List Int)) (w : World) (ht : Tide.ListIn w 17 Trg.enc (.slice A p.trigs.length cap) p.trigs) (hf : ∀ t ∈ p.trigs, t.fits) (hn : p.name.size ≤ 9223372036854775807) (hl : p.trigs.length ≤ 9223372036854775807)
    (hr : ∀ row ∈ l, row.length = 3 ∧ ∀ x ∈ row, -9223372036854775808 ≤ x ∧ x ≤ 9223372036854775807) (hA : RowsAt w 3 A1 l) (hl1 : l.length ≤ 9223372036854775807) :
    Calls Tryz.prog 5 #[plnV p (.slice A p.trigs.length cap), .int .i64 parts, .int .i64 most, .int .i64 sec, .slice A1 l.length cap1] w fun e w' => e = .returned (.bool true) ∧ Below w.heap.size w w' := by
  have HB := Lib.hid ((Below.refl w.heap.size w).alloc (Nat.le_refl _) (.cells (plnC p (.slice A p.trigs.length cap)) 29))
  have HX := Lib.hid (Tide.At.made w 29 (plnC p (.slice A p.trigs.length cap)))
  have HC := Lib.hid (fun (W : World) (hb : Below w.heap.size w W) => topPlayed p A cap parts most sec A1 cap1 l W (ht.below hb (Nat.le_refl _)) hf hn hl hr (hA.below hb (Nat.le_refl _)) hl1)
  clear ht hf hn hl hA hr hl1
  unfold plnV
  unfold plnC at HB HX
  go_enter Tryz.func5, Tryz.ntmps5
  go_upto_region 1 with fail
  generalize w.alloc (.cells #[.string p.name, .int .i64 p.mn, .int .i64 p.mx, .int .i64 p.poll, .int .i64 p.cool, .int .i64 p.tol, .int .i64 p.back, .int .i64 p.after, .int .i64 p.shift, .int .i64 p.up.win, .int .i64 p.up.pods, .int .i64 p.up.pct, .int .i64 p.up.per, .int .i64 p.down.win, .int .i64 p.down.pods, .int .i64 p.down.pct, .int .i64 p.down.per, .slice A p.trigs.length cap] 29) = W at HB HX ⊢
  go_wp2_with fail
  refine (topSaid _).mono ?_
  rintro e w1 ⟨rfl, hb1⟩
  have HB1 := Lib.hid (HB.out.trans (hb1.mono HB.out.size))
  have HX1 := Lib.hid (HX.out.below hb1 HX.out.inside)
  have HC1 := Lib.hid (HC.out _ HB1.out)
  clear hb1 HX HC HB
  go_wp2_with (refine wpList_load_row rfl 29 (.tmp 5) rfl w.heap.size rfl 29 _ (0, 0) _ HX1.out Tryz.underlying29 rfl (by kernel_rfl) ?_)
  refine HC1.out.mono ?_
  intro e w2 hp
  clear HC1 HX1
  cases hp with
  | bad _ h hb =>
    have HF := Lib.hid (HB1.out.trans (hb.mono HB1.out.size))
    clear h hb
    go_wp2_with fail
    go_ret
    exact ⟨rfl, HF.out⟩
  | good _ q he hl60 hn hok hb =>
    have HL := Lib.hid (late_play hok l)
    have HBn := Lib.hid ((ok_play hok l).bn)
    have HB2 := Lib.hid (HB1.out.trans (hb.mono HB1.out.size))
    have hN := hn
    generalize playW (newWo p parts most sec) l = m at HL HBn hN
    have HN := Lib.hid hN
    clear he hl60 hn hok hb hN HB1
    go_wp2_with fail
    refine (woReqsOf HN.out).mono ?_
    rintro e w3 ⟨v, rfl, ho, hb3⟩
    obtain ⟨A3, cap3, rfl, _, _, _⟩ := ho.slice
    have HO := Lib.hid ho
    have HS := Lib.hid (show WoN (fun b => b < w1.heap.size) w3 q m ∧ Below w3.heap.size w3 w3 from ⟨HN.out.below hb3, Below.refl _ _⟩)
    have HB3 := Lib.hid (HB2.out.trans (hb3.mono HB2.out.size))
    have hbn : (m.b.length : Int) ≤ 200 := by have := HBn.out; omega
    clear ho hb3 HN HB2
    go_wp2_with fail
    go_loopw [28] (fun i wr => ∃ k : Nat, k ≤ m.b.length ∧ i = .int .i64 k ∧ Hid (WoN (fun b => b < w1.heap.size) wr q m ∧ Below w3.heap.size w3 wr)) (fun i _ => m.b.length - (intOf i).toNat)
    case atStart => exact ⟨0, Nat.zero_le _, rfl, HS⟩
    case round =>
      clear HS
      obtain ⟨k, hk, rfl, HK⟩ := hrel
      by_cases hlt : k < m.b.length
      · obtain ⟨r, hrk⟩ := Tide.get_some m.b hlt
        obtain ⟨b, cp, e, hbl, d0, d1, d2, d3, d4⟩ := req_cells HO.out hrk
        cases e
        have k0 : (0 : Int) ≤ (k : Int) := by omega
        have k1 : (k : Int) < (m.b.length : Int) := by omega
        have c0 := (HK.out.2.cell (p := ⟨b, k * 5, none⟩) hbl).trans d0
        have c1 := (HK.out.2.cell (p := ⟨b, k * 5 + 1, none⟩) hbl).trans d1
        have c2 := (HK.out.2.cell (p := ⟨b, k * 5 + 2, none⟩) hbl).trans d2
        have c3 := (HK.out.2.cell (p := ⟨b, k * 5 + 3, none⟩) hbl).trans d3
        have c4 := (HK.out.2.cell (p := ⟨b, k * 5 + 4, none⟩) hbl).trans d4
        have hbw : b < wr.heap.size := Nat.lt_of_lt_of_le hbl HK.out.2.size
        have HNr := Lib.hid (HK.out.1.alloc (.cells #[.int .i64 r.id, .int .i64 r.source, .int .i64 r.till, .int .i64 r.fate, .int .i64 r.pod] 55))
        have HBr := Lib.hid ((HK.out.2.alloc HK.out.2.size (.cells #[.int .i64 r.id, .int .i64 r.source, .int .i64 r.till, .int .i64 r.fate, .int .i64 r.pod] 55)))
        obtain ⟨l1, l2, l3⟩ := HL.out r (List.mem_of_getElem? hrk)
        clear d0 d1 d2 d3 d4 hrk
        by_cases f4 : r.fate = 4
        · obtain ⟨hp0, htl⟩ := l2 f4
          rw [f4] at c3 HNr HBr
          rw [hp0] at c4 HNr HBr
          have ht3 : decide (m.now < r.till) = false := by simpa using htl
          clear l1 l2 l3 f4 hp0 htl HK
          go_wp2_with fail
          go_quiet ((go_at_call 23; exact Calls.quiet_of_same (woNow' (HNr.out.drewN _))))
          go_wp2_with fail
          go_roundw
          case rel => exact ⟨k + 1, by omega, by go_num, Lib.hid ⟨HNr.out.drewN _, below_drewN HBr.out _⟩⟩
          case measure => simp [intOf]; omega
        by_cases f1 : r.fate = 1
        · obtain ⟨hp0, htl⟩ := l1 f1
          rw [f1] at c3 HNr HBr
          rw [hp0] at c4 HNr HBr
          have ht3 : decide (r.till ≤ m.now) = false := by simpa using htl
          clear l1 l2 l3 f1 f4 hp0 htl HK
          go_wp2_with fail
          go_quiet ((go_at_call 23; exact Calls.quiet_of_same (woNow' (HNr.out.drewN _))))
          go_wp2_with fail
          go_roundw
          case rel => exact ⟨k + 1, by omega, by go_num, Lib.hid ⟨HNr.out.drewN _, below_drewN HBr.out _⟩⟩
          case measure => simp [intOf]; omega
        by_cases f3 : r.fate = 3
        · have hp0 := l3 (.inr (.inl f3))
          have hp1 : (r.pod != 0) = true := by simpa using hp0
          rw [f3] at c3 HNr HBr
          clear l1 l2 l3 f1 f3 f4 hp0 HK
          go_wp2_with fail
          go_quiet ((go_at_call 23; exact Calls.quiet_of_same (woNow' (HNr.out.drewN _))))
          go_wp2_with fail
          go_roundw
          case rel => exact ⟨k + 1, by omega, by go_num, Lib.hid ⟨HNr.out.drewN _, below_drewN HBr.out _⟩⟩
          case measure => simp [intOf]; omega
        by_cases f5 : r.fate = 5
        · have hp0 := l3 (.inr (.inr f5))
          have hp1 : (r.pod != 0) = true := by simpa using hp0
          rw [f5] at c3 HNr HBr
          clear l1 l2 l3 f1 f3 f4 f5 hp0 HK
          go_wp2_with fail
          go_quiet ((go_at_call 23; exact Calls.quiet_of_same (woNow' (HNr.out.drewN _))))
          go_wp2_with fail
          go_roundw
          case rel => exact ⟨k + 1, by omega, by go_num, Lib.hid ⟨HNr.out.drewN _, below_drewN HBr.out _⟩⟩
          case measure => simp [intOf]; omega
        · have b4 : (r.fate == 4) = false := by simpa using f4
          have b1 : (r.fate == 1) = false := by simpa using f1
          have b3 : (r.fate == 3) = false := by simpa using f3
          have b5 : (r.fate == 5) = false := by simpa using f5
          clear l1 l2 l3 f1 f3 f4 f5 HK
          go_wp2_with fail
          go_quiet ((go_at_call 23; exact Calls.quiet_of_same (woNow' (HNr.out.drewN _))))
          go_wp2_with fail
          go_roundw
          case rel => exact ⟨k + 1, by omega, by go_num, Lib.hid ⟨HNr.out.drewN _, below_drewN HBr.out _⟩⟩
          case measure => simp [intOf]; omega
      · have hke : k = m.b.length := by omega
        subst hke
        have HF := Lib.hid (HB3.out.trans (HK.out.2.mono HB3.out.size))
        clear HK
        go_wp2_with fail
        go_ret
        exact ⟨rfl, HF.out⟩
end Go.Proofs.YtlfaogkdghnmcaaGreat
