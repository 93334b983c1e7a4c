/- What the laws of the package tidetop begin with: said, played. -/
import Derived.Test.YtlfaogkdghnmcaaGreatTpM
import Derived.Test.YtlfaogkdghnmcaaGreatWldR
import Derived.Test.YtlfaogkdghnmcaaGreatZLopD
import Derived.Test.YtlfaogkdghnmcaaGreatZBase
set_option linter.unusedVariables false
set_option linter.unusedSimpArgs false
namespace Go.Proofs.YtlfaogkdghnmcaaGreat
open Go.RowKit
set_option maxRecDepth 100000 in
set_option maxHeartbeats 1600000 in
theorem topSome (w : World) : Calls Tryz.prog 15 #[] w (PlainPost w) := by
  obtain ⟨i0, hi0, hz0, hz1⟩ := info2 plain_trg
  have hz2 : ¬ 1 * i0.size > 2 ^ 24 := by rw [hz1]; decide
  have hz3 : ¬ 1 * i0.size = 0 := by rw [hz1]; decide
  have hz4 : Instr.fill (fun i => some (i * i0.size, i0.size)) ((Array.range (1 * i0.size)).map ((Value.agg #[.int .i64 0, .int .i64 0, .int .i64 0, .int .u64 0, .int .u64 0, .int .u64 0, .int .u64 0, .int .u64 0, .bool false, .bool false, .int .u64 0, .int .u64 0, .int .u64 0, .int .u64 0, .int .u64 0, .bool false, .bool false]).cells[· % (Value.agg #[.int .i64 0, .int .i64 0, .int .i64 0, .int .u64 0, .int .u64 0, .int .u64 0, .int .u64 0, .int .u64 0, .bool false, .bool false, .int .u64 0, .int .u64 0, .int .u64 0, .int .u64 0, .int .u64 0, .bool false, .bool false]).cells.size]!)) [(0, .agg TC10)] = some TC10 := by rw [hz1]; exact plain_fill
  have H0 := Lib.hid hi0; have H1 := Lib.hid hz0; have H2 := Lib.hid hz2; have H3 := Lib.hid hz3; have H4 := Lib.hid hz4
  clear hi0 hz0 hz1 hz2 hz3 hz4
  have HZ := Lib.hid (Tide.At.made w 29 #[.string ⟨#[]⟩, .int .i64 0, .int .i64 0, .int .i64 0, .int .i64 0, .int .i64 0, .int .i64 0, .int .i64 0, .int .i64 0, .int .i64 0, .int .i64 0, .int .i64 0, .int .i64 0, .int .i64 0, .int .i64 0, .int .i64 0, .int .i64 0, .slice none 0 0])
  have HB := Lib.hid ((Below.refl w.heap.size w).alloc (Nat.le_refl _) (.cells #[.string ⟨#[]⟩, .int .i64 0, .int .i64 0, .int .i64 0, .int .i64 0, .int .i64 0, .int .i64 0, .int .i64 0, .int .i64 0, .int .i64 0, .int .i64 0, .int .i64 0, .int .i64 0, .int .i64 0, .int .i64 0, .int .i64 0, .int .i64 0, .slice none 0 0] 29))
  go_enter Tryz.func15, Tryz.ntmps15
  go_upto_region 1 with fail
  generalize w.alloc (.cells #[.string ⟨#[]⟩, .int .i64 0, .int .i64 0, .int .i64 0, .int .i64 0, .int .i64 0, .int .i64 0, .int .i64 0, .int .i64 0, .int .i64 0, .int .i64 0, .int .i64 0, .int .i64 0, .int .i64 0, .int .i64 0, .int .i64 0, .int .i64 0, .slice none 0 0] 29) = W at HZ HB ⊢
  go_wp2_with (first | refine wpList_build2 rfl 37 _ rfl [(0, .int .i64 2), (1, .int .i64 10)] rfl TC10 plain_built ?_ | refine wpList_bslice2 rfl 27 37 1 _ rfl [(0, .agg TC10)] rfl TC10 i0 _ Tryz.underlying27 H0.out H1.out H2.out H3.out H4.out ?_ | refine wpList_build2 rfl 29 _ rfl [(0, .string ⟨#[112]⟩), (2, .int .i64 9), (3, .int .i64 2), (4, .int .i64 6), (11, .slice (some ⟨W.heap.size, 0, none⟩) 1 1)] rfl _ (plain_plan _) ?_ | refine wpList_store_row rfl 29 (.tmp 0) (.tmp 3) rfl w.heap.size (plnC plainP (.slice (some ⟨W.heap.size, 0, none⟩) 1 1)) rfl rfl 29 #[.string ⟨#[]⟩, .int .i64 0, .int .i64 0, .int .i64 0, .int .i64 0, .int .i64 0, .int .i64 0, .int .i64 0, .int .i64 0, .int .i64 0, .int .i64 0, .int .i64 0, .int .i64 0, .int .i64 0, .int .i64 0, .int .i64 0, .int .i64 0, .slice none 0 0] (HZ.out.alloc _) (by kernel_rfl) rfl (by kernel_rfl) ?_)
  have hA := (HZ.out.alloc (.cells TC10 37)).row_set (plnC plainP (.slice (some ⟨W.heap.size, 0, none⟩) 1 1))
  refine bodyPost_ret (v := .agg (plnC plainP (.slice (some ⟨W.heap.size, 0, none⟩) 1 1))) (by exact results_cell_row Tryz.results15 _ _ w.heap.size 29 _ (0, 0) _ rfl hA Tryz.underlying29 rfl (by kernel_rfl)) rfl ⟨W.heap.size, rfl, ?_, ?_⟩
  · exact plain_list ((Tide.At.made W 37 TC10).row_other (by have := HZ.out.inside; omega) _)
  · exact (HB.out.alloc HB.out.size _).setRow (Nat.le_refl _) _
set_option maxHeartbeats 800000 in
theorem topTick (n : Int) (w : World) : Calls Tryz.prog 18 #[.int .i64 n] w fun e w' => e = .returned (.agg #[.int .i64 1, .int .i64 0, .int .i64 n]) ∧ Below w.heap.size w w' := by
  have HB := Lib.hid ((Below.refl w.heap.size w).alloc (Nat.le_refl _) (.cells #[.int .i64 1, .int .i64 0, .int .i64 n] 44))
  go_enter Tryz.func18, Tryz.ntmps18
  go_wp2_with fail
  refine bodyPost_ret (v := .agg #[.int .i64 1, .int .i64 0, .int .i64 n]) (by simp [results, Tryz.results18, go_sem]) rfl ⟨rfl, HB.out⟩
theorem pods_len {w w' : World} {l : List Tide.Pod} {e : Ending} (h : FleAllPost w l e w') : ∃ A cap, e = .returned (.slice A l.length cap) ∧ Below w.heap.size w w' := by
  obtain ⟨v, rfl, ho, hb⟩ := h
  obtain ⟨A, cap, rfl, _⟩ := ho.slice
  exact ⟨A, cap, rfl, hb⟩
set_option maxRecDepth 100000 in
set_option maxHeartbeats 6400000 in
theorem topSaid (w : World) : Calls Tryz.prog 13 #[] w fun e w' => e = .returned (.bool true) ∧ Below w.heap.size w w' := by
  obtain ⟨m1, m2, mz, r, e1, f1, e2, f2, e3, f3, f4, f5, e4, f6, f7, k1, k2, k3⟩ := said_facts
  have E1 := Lib.hid e1; have F1 := Lib.hid f1; have E2 := Lib.hid e2; have F2 := Lib.hid f2; have E3 := Lib.hid e3; have F3 := Lib.hid f3; have F4 := Lib.hid f4; have F5 := Lib.hid f5; have E4 := Lib.hid e4; have F6 := Lib.hid f6; have F7 := Lib.hid f7
  have K1 := Lib.hid k1; have K2 := Lib.hid k2; have K3 := Lib.hid k3
  clear e1 f1 e2 f2 e3 f3 f4 f5 e4 f6 f7 k1 k2 k3
  go_enter Tryz.func13, Tryz.ntmps13
  go_wp2_with fail
  refine (topSome _).mono ?_
  rintro e w1 ⟨b, rfl, hL, hb1⟩
  have HL := Lib.hid hL; have HB1 := Lib.hid hb1
  clear hL hb1
  go_wp2_with fail
  refine (woNewYes plainP _ _ 1 2 0 w1 HL.out plainP_fits (by show 1 ≤ _; omega) plainP_ok (by omega) (by omega) (by omega) (by omega)).mono ?_
  rintro e w2 ⟨q, rfl, hn, hb2⟩
  rw [show newWo plainP ((1 : Nat) : Int) 2 0 = m1 from E1.out] at hn
  have HN2 := Lib.hid hn; have HB2 := Lib.hid (HB1.out.trans (hb2.mono HB1.out.size)); have HZ := Lib.hid HB1.out.size
  clear hn hb2 HL
  go_wp2_with fail
  refine (woDo 4 0 25 HN2.out K1.out (by omega) (by omega) (by omega)).mono ?_
  rintro e w3 ⟨rfl, hc⟩
  rw [F1.out]
  rw [E2.out] at hc
  have HN3 := Lib.hid hc.1
  have HB3 := Lib.hid (HB2.out.trans (hc.2.below HB2.out.size (fun k hk h => h (by have := HZ.out; omega))))
  clear hc HN2
  go_wp2_with fail
  refine (topTick 1 _).mono ?_
  rintro e w4 ⟨rfl, hb⟩
  have HN4 := Lib.hid (HN3.out.below hb)
  have HB4 := Lib.hid (HB3.out.trans (hb.mono HB3.out.size))
  clear hb HN3
  go_wp2_with fail
  refine (woDo 1 0 1 HN4.out K2.out (by omega) (by omega) (by omega)).mono ?_
  rintro e w5 ⟨rfl, hc⟩
  rw [F2.out]
  rw [E3.out] at hc
  have HN5 := Lib.hid hc.1
  have HB5 := Lib.hid (HB4.out.trans (hc.2.below HB4.out.size (fun k hk h => h (by have := HZ.out; omega))))
  clear hc HN4
  go_wp2_with fail
  refine (woTarget HN5.out).mono ?_
  rintro e w' ⟨rfl, rfl⟩
  rw [F3.out]
  go_wp2_with fail
  refine (woPodsOf HN5.out).mono ?_
  intro e w6 hp
  obtain ⟨A6, c6, rfl, hb⟩ := pods_len hp
  rw [F4.out]
  have HN6 := Lib.hid (HN5.out.below hb)
  have HB6 := Lib.hid (HB5.out.trans (hb.mono HB5.out.size))
  clear hb hp HN5
  go_wp2_with fail
  go_loopw [3] (fun i wr => ∃ k : Nat, k ≤ 25 ∧ i = .int .i64 ((k : Int) + 1) ∧ Hid (WoN (fun b => b < w1.heap.size) wr q (r k) ∧ Below w.heap.size w wr)) (fun i _ => 26 - (intOf i).toNat)
  case atStart => exact ⟨0, by omega, by go_num, Lib.hid ⟨HN6.out, HB6.out⟩⟩
  case round =>
    obtain ⟨k, hk, rfl, HK⟩ := hrel
    by_cases hlt : k < 25
    · obtain ⟨g1, g2, g3⟩ := F5.out k hlt
      have G1 := Lib.hid g1; have G2 := Lib.hid g2; have G3 := Lib.hid g3
      have hk0 : (0 : Int) ≤ (k : Int) := by omega
      have hk1 : (k : Int) < 25 := by omega
      have HKk := Lib.hid (K3.out k hk)
      clear g1 g2 g3
      go_wp2_with fail
      refine (woDo 5 0 5 HK.out.1 HKk.out (by omega) (by omega) (by omega)).mono ?_
      rintro e w7 ⟨rfl, hc⟩
      rw [G1.out]
      have HN7 := Lib.hid hc.1
      have HB7 := Lib.hid (HK.out.2.trans (hc.2.below HK.out.2.size (fun k hk h => h (by have := HZ.out; omega))))
      clear hc HK
      go_wp2_with fail
      refine (woDo 6 0 ((k : Int) + 1) HN7.out (ok_do HKk.out 5 0 5) (by omega) (by omega) (by omega)).mono ?_
      rintro e w8 ⟨rfl, hc⟩
      rw [G2.out]
      rw [G3.out] at hc
      have HN8 := Lib.hid hc.1
      have HB8 := Lib.hid (HB7.out.trans (hc.2.below HB7.out.size (fun k hk h => h (by have := HZ.out; omega))))
      clear hc HN7
      go_wp2_with fail
      go_roundw
      case rel => exact ⟨k + 1, by omega, by go_num, Lib.hid ⟨HN8.out, HB8.out⟩⟩
      case measure => simp [intOf]; omega
    · have hke : k = 25 := by omega
      subst hke
      go_wp2_with fail
      refine (topTick 9 _).mono ?_
      rintro e w9 ⟨rfl, hb⟩
      have HN9 := Lib.hid (HK.out.1.below hb)
      have HB9 := Lib.hid (HK.out.2.trans (hb.mono HK.out.2.size))
      clear hb HK
      go_wp2_with fail
      refine (woDo 1 0 9 HN9.out (K3.out 25 (by omega)) (by omega) (by omega) (by omega)).mono ?_
      rintro e wa ⟨rfl, hc⟩
      rw [E4.out] at hc
      have HNa := Lib.hid hc.1
      have HBa := Lib.hid (HB9.out.trans (hc.2.below HB9.out.size (fun k hk h => h (by have := HZ.out; omega))))
      clear hc HN9
      go_wp2_with fail
      refine (woTarget HNa.out).mono ?_
      rintro e w' ⟨rfl, rfl⟩
      rw [F6.out]
      go_wp2_with fail
      refine (woPodsOf HNa.out).mono ?_
      intro e wb hp
      obtain ⟨A7, c7, rfl, hb⟩ := pods_len hp
      rw [F7.out]
      have HBb := Lib.hid (HBa.out.trans (hb.mono HBa.out.size))
      clear hb hp HNa
      go_wp2_with fail
      go_ret
      exact ⟨rfl, HBb.out⟩
end Go.Proofs.YtlfaogkdghnmcaaGreat
