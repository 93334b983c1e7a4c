/- The walk of TopNeeds. -/
import Derived.Test.YtlfaogkdghnmcaaGreatWldK
import Derived.Test.YtlfaogkdghnmcaaGreatTpP
import Derived.Test.YtlfaogkdghnmcaaGreatRestC
import Derived.Test.YtlfaogkdghnmcaaGreatZBase
import Derived.Deep.DeepCutAuto
set_option linter.unusedVariables false
set_option linter.unusedSimpArgs false
namespace Go.Proofs.YtlfaogkdghnmcaaGreat
open Go.RowKit
/-- a plan of one's own, its trigger's block known whole -/
def PlainPostA (w : World) (e : Ending) (w' : World) : Prop := ∃ b, e = .returned (.agg (plnC plainP (.slice (some ⟨b, 0, none⟩) 1 1))) ∧ Tide.At w' b 37 TC10 ∧ w.heap.size < b ∧ Below w.heap.size w w'
set_option maxRecDepth 100000 in
set_option maxHeartbeats 1600000 in
theorem topSomeA (w : World) : Calls Tryz.prog 15 #[] w (PlainPostA w) := by
  obtain ⟨i0, hi0, hz0, hz1⟩ := info2 plain_trg
  have hz2 : ¬ 1 * i0.size > 2 ^ 24 := by rw [hz1]; decide
  have hz3 : ¬ 1 * i0.size = 0 := by rw [hz1]; decide
  have hz4 : Instr.fill (fun i => some (i * i0.size, i0.size)) ((Array.range (1 * i0.size)).map ((Value.agg #[.int .i64 0, .int .i64 0, .int .i64 0, .int .u64 0, .int .u64 0, .int .u64 0, .int .u64 0, .int .u64 0, .bool false, .bool false, .int .u64 0, .int .u64 0, .int .u64 0, .int .u64 0, .int .u64 0, .bool false, .bool false]).cells[· % (Value.agg #[.int .i64 0, .int .i64 0, .int .i64 0, .int .u64 0, .int .u64 0, .int .u64 0, .int .u64 0, .int .u64 0, .bool false, .bool false, .int .u64 0, .int .u64 0, .int .u64 0, .int .u64 0, .int .u64 0, .bool false, .bool false]).cells.size]!)) [(0, .agg TC10)] = some TC10 := by rw [hz1]; exact plain_fill
  have H0 := Lib.hid hi0; have H1 := Lib.hid hz0; have H2 := Lib.hid hz2; have H3 := Lib.hid hz3; have H4 := Lib.hid hz4
  clear hi0 hz0 hz1 hz2 hz3 hz4
  have HZ := Lib.hid (Tide.At.made w 29 #[.string ⟨#[]⟩, .int .i64 0, .int .i64 0, .int .i64 0, .int .i64 0, .int .i64 0, .int .i64 0, .int .i64 0, .int .i64 0, .int .i64 0, .int .i64 0, .int .i64 0, .int .i64 0, .int .i64 0, .int .i64 0, .int .i64 0, .int .i64 0, .slice none 0 0])
  have HB := Lib.hid ((Below.refl w.heap.size w).alloc (Nat.le_refl _) (.cells #[.string ⟨#[]⟩, .int .i64 0, .int .i64 0, .int .i64 0, .int .i64 0, .int .i64 0, .int .i64 0, .int .i64 0, .int .i64 0, .int .i64 0, .int .i64 0, .int .i64 0, .int .i64 0, .int .i64 0, .int .i64 0, .int .i64 0, .int .i64 0, .slice none 0 0] 29))
  go_enter Tryz.func15, Tryz.ntmps15
  go_upto_region 1 with fail
  generalize w.alloc (.cells #[.string ⟨#[]⟩, .int .i64 0, .int .i64 0, .int .i64 0, .int .i64 0, .int .i64 0, .int .i64 0, .int .i64 0, .int .i64 0, .int .i64 0, .int .i64 0, .int .i64 0, .int .i64 0, .int .i64 0, .int .i64 0, .int .i64 0, .int .i64 0, .slice none 0 0] 29) = W at HZ HB ⊢
  go_wp2_with (first | refine wpList_build2 rfl 37 _ rfl [(0, .int .i64 2), (1, .int .i64 10)] rfl TC10 plain_built ?_ | refine wpList_bslice2 rfl 27 37 1 _ rfl [(0, .agg TC10)] rfl TC10 i0 _ Tryz.underlying27 H0.out H1.out H2.out H3.out H4.out ?_ | refine wpList_build2 rfl 29 _ rfl [(0, .string ⟨#[112]⟩), (2, .int .i64 9), (3, .int .i64 2), (4, .int .i64 6), (11, .slice (some ⟨W.heap.size, 0, none⟩) 1 1)] rfl _ (plain_plan _) ?_ | refine wpList_store_row rfl 29 (.tmp 0) (.tmp 3) rfl w.heap.size (plnC plainP (.slice (some ⟨W.heap.size, 0, none⟩) 1 1)) rfl rfl 29 #[.string ⟨#[]⟩, .int .i64 0, .int .i64 0, .int .i64 0, .int .i64 0, .int .i64 0, .int .i64 0, .int .i64 0, .int .i64 0, .int .i64 0, .int .i64 0, .int .i64 0, .int .i64 0, .int .i64 0, .int .i64 0, .int .i64 0, .int .i64 0, .slice none 0 0] (HZ.out.alloc _) (by kernel_rfl) rfl (by kernel_rfl) ?_)
  have hA := (HZ.out.alloc (.cells TC10 37)).row_set (plnC plainP (.slice (some ⟨W.heap.size, 0, none⟩) 1 1))
  refine bodyPost_ret (v := .agg (plnC plainP (.slice (some ⟨W.heap.size, 0, none⟩) 1 1))) (by exact results_cell_row Tryz.results15 _ _ w.heap.size 29 _ (0, 0) _ rfl hA Tryz.underlying29 rfl (by kernel_rfl)) rfl ⟨W.heap.size, rfl, ?_, HZ.out.inside, ?_⟩
  · exact (Tide.At.made W 37 TC10).row_other (by have := HZ.out.inside; omega) _
  · exact (HB.out.alloc HB.out.size _).setRow (Nat.le_refl _) _
theorem dep_list {w : World} {b : Nat} {k : Int} (h : Tide.At w b 37 (TC10.setIfInBounds 1 (.int .i64 k))) : Tide.ListIn w 17 Trg.enc (.slice (some ⟨b, 0, none⟩) 1 1) [depT k] := by
  refine ⟨some ⟨b, 0, none⟩, 1, rfl, fun _ => ⟨b, 0, rfl, h.inside, fun i a j u hi hj => ?_⟩⟩
  rcases i with _ | i
  · simp at hi; subst hi
    rw [Nat.zero_mul, Nat.add_zero, Nat.zero_add]
    refine h.here ?_
    rw [← Array.getElem?_toList]
    exact hj
  · simp at hi
theorem dep_fine {k : Int} (k1 : 1 ≤ k) (k2 : k ≤ 30) : newE (depP k) 1 0 = 0 ∧ ∀ t ∈ (depP k).trigs, t.fits := by
  refine ⟨?_, fun t ht => ?_⟩
  · unfold newE
    have e : planE (depP k) = 0 := by
      obtain ⟨n, rfl⟩ := Int.eq_ofNat_of_zero_le (show 0 ≤ k by omega)
      have key : ∀ n : Nat, n < 31 → 1 ≤ n → planE (depP (n : Int)) = 0 := by decide +kernel
      exact key n (by omega) (by omega)
    rw [e]; decide
  · have e : t = depT k := by simpa [depP] using ht
    subst e
    have h1 : plainT.a.fits := by unfold Cr.fits plainT; decide
    have h2 : plainT.b.fits := by unfold Cr.fits plainT; decide
    exact ⟨h1, h2⟩
set_option maxRecDepth 100000 in
set_option maxHeartbeats 25600000 in
theorem topNeeds_walk0 (target : Int) (A1 : Option Addr) (cap1 : Nat) (l : List (List Int)) (w : World) (hcap : l.length ≤ cap1) (hmax : cap1 ≤ maxLen)
    (hr : ∀ row ∈ l, row.length = 1 ∧ ∀ x ∈ row, -9223372036854775808 ≤ x ∧ x ≤ 9223372036854775807) (hA : RowsAt w 1 A1 l) :
    Calls Tryz.prog 3 #[.int .i64 target, .slice A1 l.length cap1] w fun e w' => e = .returned (.bool true) ∧ Below w.heap.size w w' := by
  have HA := Lib.hid hA; have HRw := Lib.hid hr
  clear hr hA
  go_enter Tryz.func3, Tryz.ntmps3
  go_wp2_with fail
  refine (topSaid _).mono ?_
  rintro e w1 ⟨rfl, hb1⟩
  have HB1 := Lib.hid hb1
  clear hb1
  go_wp2_with fail
  refine (restC target 30 _ (by decide) (by decide)).mono ?_
  rintro e w' ⟨rfl, rfl⟩
  obtain ⟨k, hk, k1, k2⟩ : ∃ k, Hid (target % 30 + 1 = k) ∧ 1 ≤ k ∧ k ≤ 30 := ⟨_, Lib.hid rfl, by omega, by omega⟩
  have hk9 : target % 30 = k - 1 := by have := hk.out; omega
  rw [hk9]
  clear hk hk9
  go_wp2_with fail
  refine (topSomeA _).mono ?_
  rintro e w2 ⟨b, rfl, hT, hbl, hb2⟩
  have HB2 := Lib.hid (HB1.out.trans (hb2.mono HB1.out.size)); have HT := Lib.hid hT; have HBl := Lib.hid hbl
  clear hT hbl hb2
  have HZ := Lib.hid (Tide.At.made w2 29 #[.string ⟨#[]⟩, .int .i64 0, .int .i64 0, .int .i64 0, .int .i64 0, .int .i64 0, .int .i64 0, .int .i64 0, .int .i64 0, .int .i64 0, .int .i64 0, .int .i64 0, .int .i64 0, .int .i64 0, .int .i64 0, .int .i64 0, .int .i64 0, .slice none 0 0])
  go_upto_region 5 with (refine wpList_store_row rfl 29 (.tmp 6) (.tmp 19) rfl w2.heap.size (plnC plainP (.slice (some ⟨b, 0, none⟩) 1 1)) rfl rfl 29 #[.string ⟨#[]⟩, .int .i64 0, .int .i64 0, .int .i64 0, .int .i64 0, .int .i64 0, .int .i64 0, .int .i64 0, .int .i64 0, .int .i64 0, .int .i64 0, .int .i64 0, .int .i64 0, .int .i64 0, .int .i64 0, .int .i64 0, .int .i64 0, .slice none 0 0] HZ.out (by kernel_rfl) rfl (by kernel_rfl) ?_)
  have HP := Lib.hid (HZ.out.row_set (plnC plainP (.slice (some ⟨b, 0, none⟩) 1 1)))
  have HT2 := Lib.hid ((HT.out.alloc (.cells #[.string ⟨#[]⟩, .int .i64 0, .int .i64 0, .int .i64 0, .int .i64 0, .int .i64 0, .int .i64 0, .int .i64 0, .int .i64 0, .int .i64 0, .int .i64 0, .int .i64 0, .int .i64 0, .int .i64 0, .int .i64 0, .int .i64 0, .int .i64 0, .slice none 0 0] 29)).row_other (k := w2.heap.size) (by have := HT.out.inside; omega) (plnC plainP (.slice (some ⟨b, 0, none⟩) 1 1)))
  have HB3 := Lib.hid ((HB2.out.alloc HB2.out.size (.cells #[.string ⟨#[]⟩, .int .i64 0, .int .i64 0, .int .i64 0, .int .i64 0, .int .i64 0, .int .i64 0, .int .i64 0, .int .i64 0, .int .i64 0, .int .i64 0, .int .i64 0, .int .i64 0, .int .i64 0, .int .i64 0, .int .i64 0, .int .i64 0, .slice none 0 0] 29)).setRow (HB2.out.size) (plnC plainP (.slice (some ⟨b, 0, none⟩) 1 1)))
  have HLt := Lib.hid (show b < w2.heap.size from HT.out.inside)
  have HWs := Lib.hid HB2.out.size
  clear HZ HT HB2
  generalize (w2.alloc (.cells #[.string ⟨#[]⟩, .int .i64 0, .int .i64 0, .int .i64 0, .int .i64 0, .int .i64 0, .int .i64 0, .int .i64 0, .int .i64 0, .int .i64 0, .int .i64 0, .int .i64 0, .int .i64 0, .int .i64 0, .int .i64 0, .int .i64 0, .int .i64 0, .slice none 0 0] 29)).setRow w2.heap.size (plnC plainP (.slice (some ⟨b, 0, none⟩) 1 1)) = W at HP HT2 HB3 ⊢
  generalize w2.heap.size = P at HP HLt HWs ⊢
  have x17 : W.cell? ⟨P, 17, none⟩ = some (.slice (some ⟨b, 0, none⟩) 1 1) := HP.out.here (i := 17) rfl
  have y17 := HP.out.soft 17
  have x3 : W.cell? ⟨P, 3, none⟩ = some (.int .i64 2) := HP.out.here (i := 3) rfl
  have y3 := HP.out.soft 3
  have x2 : W.cell? ⟨P, 2, none⟩ = some (.int .i64 9) := HP.out.here (i := 2) rfl
  have y2 := HP.out.soft 2
  have t1 : W.cell? ⟨b, 1, none⟩ = some (.int .i64 10) := HT2.out.here (i := 1) rfl
  have u1 := HT2.out.soft 1
  have hne : b ≠ P := by have := HLt.out; omega
  have hne2 : P ≠ b := by have := HLt.out; omega
  go_frame
  go_upto_region 6 with fail
  have HP6 : Tide.At (((W.setCell ⟨P, 3, none⟩ (.int .i64 1)).setCell ⟨P, 2, none⟩ (.int .i64 50)).setCell ⟨b, 1, none⟩ (.int .i64 k)) P 29 (plnC (depP k) (.slice (some ⟨b, 0, none⟩) 1 1)) := ((HP.out.put 3 _).put 2 _).other hne2 _
  have HT6 := Lib.hid (dep_list (k := k) (((HT2.out.other (p := ⟨P, 3, none⟩) hne (.int .i64 1)).other (p := ⟨P, 2, none⟩) hne (.int .i64 50)).put 1 (.int .i64 k)))
  obtain ⟨hE0, hfit⟩ := dep_fine k1 k2
  have HP6 := Lib.hid HP6
  have HB6 := Lib.hid (show Below w.heap.size w (((W.setCell ⟨P, 3, none⟩ (.int .i64 1)).setCell ⟨P, 2, none⟩ (.int .i64 50)).setCell ⟨b, 1, none⟩ (.int .i64 k)) from
    ((HB3.out.setCell (p := ⟨P, 3, none⟩) HWs.out _).setCell (p := ⟨P, 2, none⟩) HWs.out _).setCell (p := ⟨b, 1, none⟩) (by have := HBl.out; have := HB1.out.size; show w.heap.size ≤ b; omega) _)
  clear x17 y17 x3 y3 x2 y2 t1 u1 hne hne2 HP HT2 HB3 HLt HBl
  generalize ((W.setCell ⟨P, 3, none⟩ (.int .i64 1)).setCell ⟨P, 2, none⟩ (.int .i64 50)).setCell ⟨b, 1, none⟩ (.int .i64 k) = w6 at HP6 HT6 HB6 ⊢
  have HC := Lib.hid (anyNew (depP k) (some ⟨b, 0, none⟩) 1 1 1 0 w6 HT6.out hfit (by show plainP.name.size ≤ _; decide) (by show 1 ≤ _; decide))
  have HE0 := Lib.hid hE0
  clear hE0 hfit HT6
  go_wp2_with (refine wpList_load_row rfl 29 (.tmp 6) rfl P rfl 29 _ (0, 0) _ HP6.out Tryz.underlying29 rfl (by kernel_rfl) ?_)
  refine HC.out.mono ?_
  intro e w7 hp
  clear HC HP6
  cases hp with
  | bad _ E he h0 hb => exact absurd (he.symm.trans HE0.out) h0
  | good _ q he hn hok hb =>
    have HS := Lib.hid (show WoN (fun b => b < w6.heap.size) w7 q (newWo (depP k) 1 1 0) ∧ Below w.heap.size w w7 ∧ (newWo (depP k) 1 1 0).ok (2000 * 0) ∧ Dep k (newWo (depP k) 1 1 0) ∧ (newWo (depP k) 1 1 0).now ≤ (0 : Nat) from ⟨hn, HB6.out.trans (hb.mono HB6.out.size), hok, dep_new k 1 1 0, Int.le_refl _⟩)
    have HZ := Lib.hid (show w.heap.size ≤ w6.heap.size from HB6.out.size)
    clear he hn hok hb HE0 HB6 HB1 HWs
    go_upto_region 10 with fail
    go_cut [38, 39, 40] (fun s38 s39 s40 wx => ∃ mm : Nat, mm ≤ 30 ∧ mm ≤ l.length ∧ s38 = .slice A1 mm cap1 ∧ s39 = .int .i64 mm ∧ s40 = .int .i64 0 ∧ wx = w7)
    case first =>
      have hcases : (30 : Int) < l.length ∨ (l.length : Int) = 30 ∨ (l.length : Int) < 30 := by omega
      rcases hcases with hlen | hlen | hlen
      · go_wp2_with fail
        go_meet
        exact ⟨30, by omega, by omega, by rfl, rfl, rfl, rfl⟩
      · have hq : (30 : Int) ≤ (l.length : Int) := by omega
        have hq2 : (l.length : Int) ≤ 30 := by omega
        go_wp2_with fail
        go_meet
        exact ⟨30, by omega, by omega, by rfl, rfl, rfl, rfl⟩
      · go_wp2_with fail
        go_meet
        exact ⟨l.length, by omega, by omega, by rfl, rfl, rfl, rfl⟩
    case rest =>
      obtain ⟨mm, hm1, hm2, rfl, rfl, rfl, rfl⟩ := hcut
      go_wp2_with fail
      go_loopw [9, 40] (fun dd i wr => ∃ j : Nat, j ≤ mm ∧ i = .int .i64 j ∧ ∃ d : Nat, d ≤ 200 ∧ dd = .int .i64 d ∧ Hid (∃ m, WoN (fun b => b < w6.heap.size) wr q m ∧ Below w.heap.size w wr ∧ m.ok (2000 * j) ∧ Dep k m ∧ m.now ≤ (j : Int) ∧ m.q.length = d)) (fun _ i _ => mm - (intOf i).toNat)
      case atStart => exact ⟨0, Nat.zero_le _, rfl, 0, by omega, rfl, Lib.hid ⟨_, HS.out.1, HS.out.2.1, HS.out.2.2.1, HS.out.2.2.2.1, HS.out.2.2.2.2, rfl⟩⟩
      case round =>
        clear HS
        obtain ⟨j, hj, rfl, d, hd, rfl, HJ⟩ := hrel
        obtain ⟨m, hJ⟩ := HJ.out
        have HJm := Lib.hid hJ
        clear hJ HJ
        by_cases hjl : j < mm
        · obtain ⟨b9, off9, x, rfl, cx, x0, x1⟩ := round_int HA.out HRw.out HJm.out.2.1 (show j < l.length by omega)
          have j0 : (0 : Int) ≤ (j : Int) := by omega
          have j1 : (j : Int) < (mm : Int) := by omega
          go_wp2_with fail
          refine (restC x 40 _ (by decide) (by decide)).mono ?_
          rintro e w' ⟨rfl, rfl⟩
          have n0 := Int.emod_nonneg x (show (40 : Int) ≠ 0 by decide)
          have n1 := Int.emod_lt_of_pos x (show (0 : Int) < 40 by decide)
          generalize x % 40 = n at n0 n1 ⊢
          clear cx x0 x1
          go_wp2_with fail
          refine (woDo 4 0 n HJm.out.1 HJm.out.2.2.1 (by omega) (by omega) (by omega)).mono ?_
          rintro e w8 ⟨rfl, hc⟩
          have HN8 := Lib.hid hc.1
          have HB8 := Lib.hid (HJm.out.2.1.trans (hc.2.below HJm.out.2.1.size (fun i hi h => h (by have := HZ.out; omega))))
          have HO8 := Lib.hid (ok_do HJm.out.2.2.1 4 0 n)
          have HD8 := Lib.hid (dep_put HJm.out.2.2.2.1 n)
          have HQ8 := Lib.hid (put_len (m := m) (n := n))
          have HNow := Lib.hid (show (doW m 4 0 n).now ≤ (j : Int) from HJm.out.2.2.2.2.1)
          have HQd := Lib.hid HJm.out.2.2.2.2.2
          clear hc HJm
          generalize doE m 4 0 n = E at HQ8 ⊢
          generalize doW m 4 0 n = m8 at HN8 HO8 HD8 HQ8 HNow
          go_upto_if 50 with fail
          have HD2 := Lib.hid (show m8.q.length ≤ 200 from HO8.out.qn)
          go_cut [9] (fun s wx => s = .int .i64 (m8.q.length : Int) ∧ w8 = wx)
          case first =>
            have h8 := HQ8.out
            rw [HQd.out] at h8
            by_cases hE : E = 0
            · have hEb : (E == 0) = true := by simpa using hE
              rw [if_pos hE] at h8
              have H8 := Lib.hid h8
              clear h8 hE
              go_wp2_with fail
              go_meet
              exact ⟨by rw [H8.out], rfl⟩
            · have hEb : (E == 0) = false := by simpa using hE
              rw [if_neg hE, Int.add_zero] at h8
              have H8 := Lib.hid h8
              clear h8 hE
              go_wp2_with fail
              go_meet
              exact ⟨by rw [H8.out], rfl⟩
          case rest =>
            obtain ⟨rfl, rfl⟩ := hcut
            clear HQ8 HQd hd
            go_wp2_with fail
            refine (topTick 1 _).mono ?_
            rintro e w9 ⟨rfl, hb9⟩
            have HN9 := Lib.hid (HN8.out.below hb9)
            have HB9 := Lib.hid (HB8.out.trans (hb9.mono HB8.out.size))
            clear hb9 HN8 HB8
            go_wp2_with fail
            refine (woDo 1 0 1 HN9.out HO8.out (by omega) (by decide) (by decide)).mono ?_
            rintro e w10 ⟨rfl, hc⟩
            have et : doW m8 1 0 1 = m8.tick := by
              unfold doW
              rw [if_pos rfl, if_pos (show tickE m8 1 = 0 by unfold tickE; have := HNow.out; rw [if_neg (by omega)])]; rfl
            rw [et] at hc
            obtain ⟨t1, t2, t3⟩ := dep_tick k1 k2 HO8.out (by have := HNow.out; omega) HD8.out
            have HO10 := Lib.hid (show m8.tick.ok (2000 * (j + 1)) from et ▸ (ok_do HO8.out 1 0 1).up (by omega))
            have HN10 := Lib.hid hc.1
            have HB10 := Lib.hid (HB9.out.trans (hc.2.below HB9.out.size (fun i hi h => h (by have := HZ.out; omega))))
            have HT1 := Lib.hid t1; have HT2 := Lib.hid t2; have HT3 := Lib.hid t3
            have HNow2 := Lib.hid (show m8.tick.now ≤ ((j + 1 : Nat) : Int) by
              have h1 : m8.tick.now = m8.now + 1 := ticks_now 1 m8
              have := HNow.out; omega)
            have hq2 := HD2.out
            clear t1 t2 t3 hc et HN9 HB9 HO8 HD8 HNow
            generalize m8.tick = m9 at HO10 HN10 HT1 HT2 HT3 HNow2
            go_upto_region 17 with fail
            have hq0 : (0 : Int) ≤ (m8.q.length : Int) := by omega
            generalize m8.q.length = d2 at HT2 HT3 HD2 hq2 hq0 ⊢
            obtain ⟨x2, hx2⟩ : ∃ x2, ((d2 : Int) + k - 1) / k = x2 := ⟨_, rfl⟩
            have htd : ((d2 : Int) + k - 1).tdiv k = x2 := by rw [Int.tdiv_eq_ediv_of_nonneg (by omega)]; exact hx2
            rw [hx2] at HT3
            have hx0 : 0 ≤ x2 := by rw [← hx2]; exact Int.ediv_nonneg (by omega) (by omega)
            have hx9 : x2 ≤ 300 := by
              rw [← hx2]
              exact Int.le_trans (Int.ediv_le_self _ (by omega)) (by omega)
            clear hx2
            go_cut [13] (fun s wx => s = .int .i64 (min x2 50) ∧ w10 = wx)
            case first =>
              clear HT1 HT2 HT3 HO10 HN10 HB10 HNow2
              by_cases hx5 : x2 < 50
              · have H5 := Lib.hid (show min x2 50 = x2 by omega)
                go_wp2_with fail
                go_meet
                exact ⟨by rw [H5.out], rfl⟩
              · have H5 := Lib.hid (show min x2 50 = 50 by omega)
                have hx6 : 50 ≤ x2 := by omega
                clear hx5
                by_cases hx7 : x2 = 50
                · subst hx7
                  go_wp2_with fail
                  go_meet
                  exact ⟨by rw [H5.out], rfl⟩
                · have hx8 : 50 < x2 := by omega
                  clear hx7
                  go_wp2_with fail
                  go_meet
                  exact ⟨by rw [H5.out], rfl⟩
            case rest =>
              obtain ⟨rfl, rfl⟩ := hcut
              clear htd
              obtain ⟨wn, hwn⟩ : ∃ wn, min x2 50 = wn := ⟨_, rfl⟩
              rw [hwn] at HT3 ⊢
              have hwb : 0 ≤ wn ∧ wn ≤ 50 := by omega
              clear hwn hx0 hx9
              have hne : (wn != wn) = false := by simp
              have HN := Lib.hid (fun (wz : World) (hb : Below w10.heap.size w10 wz) => show ∃ m, WoN (fun b => b < w6.heap.size) wz q m ∧ Below w.heap.size w wz ∧ m.ok (2000 * (j + 1)) ∧ Dep k m ∧ m.now ≤ ((j + 1 : Nat) : Int) ∧ m.q.length = d2 from ⟨m9, HN10.out.below hb, HB10.out.trans (hb.mono HB10.out.size), HO10.out, HT1.out, HNow2.out, HT2.out⟩)
              by_cases hdp : 0 < d2
              · obtain ⟨g1, g2⟩ := HT3.out hdp
                have hdp2 : (0 : Int) < (d2 : Int) := by omega
                clear HT3 hdp
                go_wp2_with fail
                refine (woTarget HN10.out).mono ?_
                rintro e w' ⟨rfl, rfl⟩
                rw [g1]
                go_wp2_with fail
                refine (woPodsOf HN10.out).mono ?_
                intro e w11 hp
                obtain ⟨A6, c6, rfl, hb⟩ := pods_len hp
                have HNx := Lib.hid (HN.out _ hb)
                have hln : (m9.f.length : Int) = wn := g2
                clear hp hb g1 g2
                go_wp2_with fail
                go_roundw
                case rel => exact ⟨j + 1, by omega, by go_num, d2, hq2, rfl, HNx⟩
                case measure => simp [intOf]; omega
              · have hdp2 : d2 = 0 := by omega
                have HNx := Lib.hid (HN.out _ (Below.refl _ _))
                have hdp3 : (d2 : Int) ≤ 0 := by omega
                clear HT3 hdp hdp2
                go_wp2_with fail
                go_roundw
                case rel => exact ⟨j + 1, by omega, by go_num, d2, hq2, rfl, HNx⟩
                case measure => simp [intOf]; omega
        · have HF := Lib.hid HJm.out.2.1
          clear HJm
          go_wp2_with fail
          go_ret
          exact ⟨rfl, HF.out⟩
theorem topNeeds_walk (n : Int) (hwf0 : (Lit.int .i64 n).wf = true) (v : Value) (l : List (List Int)) (w : World) (hl : ArgRows w 1 v l) :
    Calls Tryz.prog 3 #[.int .i64 n, v] w fun e w' => e = .returned (.bool true) ∧ Below w.heap.size w w' := by
  obtain ⟨A, cap, rfl, hcap, hmax, hrows, hA⟩ := hl
  exact topNeeds_walk0 n A cap l w hcap hmax hrows hA
end Go.Proofs.YtlfaogkdghnmcaaGreat
