/- What the laws of tidekeep on worlds begin with: running, works. -/
import Derived.Test.YtlfaogkdghnmcaaGreatWkM
import Derived.Test.YtlfaogkdghnmcaaGreatTpP
set_option linter.unusedVariables false
set_option linter.unusedSimpArgs false
namespace Go.Proofs.YtlfaogkdghnmcaaGreat
open Go.RowKit
def WkPost (w : World) (l : List (List Int)) (e : Ending) (w' : World) : Prop := ∃ q : Wp, e = .returned (.pointer (some ⟨q.g, 0, none⟩)) ∧ WoN (fun b => b < w.heap.size) w' q (playW (newWo plainP 1 2 0) l) ∧ Below w.heap.size w w'
set_option maxRecDepth 100000 in
set_option maxHeartbeats 6400000 in
theorem keepRunning (A1 : Option Addr) (cap1 : Nat) (l : List (List Int)) (w : World) (hr : ∀ row ∈ l, row.length = 3 ∧ ∀ x ∈ row, -9223372036854775808 ≤ x ∧ x ≤ 9223372036854775807) (hA : RowsAt w 3 A1 l) (h60 : l.length ≤ 60) :
    Calls Tryz.prog 67 #[.slice A1 l.length cap1] w (WkPost w l) := by
  have HA := Lib.hid hA; have HRw := Lib.hid hr; have HL60 := Lib.hid h60
  have h60' : (l.length : Int) ≤ 60 := by omega
  clear hA hr h60
  go_enter Tryz.func67, Tryz.ntmps67
  go_wp2_with fail
  refine (plainPlanC _).mono ?_
  rintro e w1 ⟨b, rfl, hL, hb1⟩
  have HL := Lib.hid hL; have HB1 := Lib.hid hb1
  clear hL hb1
  go_wp2_with fail
  refine (woNewYes plainP _ _ 1 2 0 w1 HL.out plainP_fits (by show 1 ≤ _; omega) plainP_ok (by omega) (by omega) (by omega) (by omega)).mono ?_
  rintro e w2 ⟨q, rfl, hn, hb2⟩
  have HB2 := Lib.hid (HB1.out.trans (hb2.mono HB1.out.size))
  have HS := Lib.hid (show WoN (fun b => b < w.heap.size) w2 q (playW (newWo plainP 1 2 0) (l.take 0)) ∧ Below w.heap.size w w2 from ⟨hn.mono fun b hb => Nat.lt_of_lt_of_le hb HB1.out.size, HB2.out⟩)
  clear hn hb2 HL HB2 HB1
  go_wp2_with fail
  go_loopw [16] (fun i wr => ∃ k : Nat, k ≤ l.length ∧ i = .int .i64 k ∧ Hid (WoN (fun b => b < w.heap.size) wr q (playW (newWo plainP 1 2 0) (l.take k)) ∧ Below w.heap.size w wr)) (fun i _ => l.length - (intOf i).toNat)
  case atStart => exact ⟨0, Nat.zero_le _, rfl, HS⟩
  case round =>
    clear HS
    obtain ⟨k, hk, rfl, HK⟩ := hrel
    by_cases hlt : k < l.length
    · obtain ⟨b, off, x, y, z, rfl, c0, c1, c2, hrow, ⟨z0, z1⟩, hbl⟩ := hap_row HA.out HRw.out HK.out.2 hlt
      have hk0 : (0 : Int) ≤ (k : Int) := by omega
      have hk1 : (k : Int) < (l.length : Int) := by omega
      have HRow := Lib.hid (play_snoc (m := newWo plainP 1 2 0) hrow)
      obtain ⟨hb1, hb2⟩ := HK.out.1.boxed (.cells #[.int .i64 x, .int .i64 y, .int .i64 z] 44)
      have HN := Lib.hid hb1; have HBx := Lib.hid hb2
      have HOkk := Lib.hid (ok_play plain_ok (l.take k))
      have HLk := Lib.hid (show 0 + 1000 * (l.take k).length ≤ 88000 by have := HL60.out; rw [List.length_take]; omega)
      clear hb1 hb2 hrow
      go_wp2_with fail
      refine (woDo x y z HN.out HOkk.out HLk.out z0 z1).mono ?_
      rintro e w4 ⟨rfl, hc⟩
      have HNx := Lib.hid (show WoN (fun b => b < w.heap.size) w4 q (playW (newWo plainP 1 2 0) (l.take (k + 1))) ∧ Below w.heap.size w w4 from by
        have h1 := WoC.unbox HBx.out hc
        refine ⟨by rw [HRow.out]; exact h1.1, HK.out.2.trans (h1.2.below HK.out.2.size (fun j hj h => h hj))⟩)
      clear hc c0 c1 c2 HK HN HBx
      go_wp2_with fail
      go_roundw
      case rel => exact ⟨k + 1, by omega, by go_num, HNx⟩
      case measure => simp [intOf]; omega
    · have hke : k = l.length := by omega
      subst hke
      have HF := Lib.hid (show WkPost w l (.returned (.pointer (some ⟨q.g, 0, none⟩))) wr from ⟨q, rfl, by have := HK.out.1; rw [List.take_length] at this; exact this, HK.out.2⟩)
      clear HK
      go_wp2_with fail
      go_ret
      exact HF.out
theorem reqs_one {w w' : World} {r : Tide.Req} {e : Ending} (h : BufAllPost w [r] e w') : ∃ b cap, e = .returned (.slice (some ⟨b, 0, none⟩) 1 cap) ∧ Below w.heap.size w w' ∧ b < w'.heap.size ∧ w.heap.size ≤ b ∧ w'.cell? ⟨b, 3, none⟩ = some (.int .i64 r.fate) ∧ w'.cell? ⟨b, 4, none⟩ = some (.int .i64 r.pod) := by
  obtain ⟨v, rfl, ho, hb⟩ := h
  obtain ⟨b, cap, rfl, hlt, _, _, _, c3, c4⟩ := req_cells ho (k := 0) rfl
  exact ⟨b, cap, rfl, hb, hlt, (ho.block b rfl).1, by simpa using c3, by simpa using c4⟩
set_option maxRecDepth 100000 in
set_option maxHeartbeats 6400000 in
theorem keepWorks (w : World) : Calls Tryz.prog 24 #[] w fun e w' => e = .returned (.bool true) ∧ Below w.heap.size w w' := by
  obtain ⟨m, mz, r, rz, e1, f1, f2, f3, f4, f5, e2, f6, f7, k1⟩ := works_facts
  have E1 := Lib.hid e1; have F1 := Lib.hid f1; have F2 := Lib.hid f2; have F3 := Lib.hid f3; have F4 := Lib.hid f4; have F5 := Lib.hid f5; have E2 := Lib.hid e2; have F6 := Lib.hid f6; have F7 := Lib.hid f7; have K1 := Lib.hid k1
  clear e1 f1 f2 f3 f4 f5 e2 f6 f7 k1
  have hAt := Tide.At.made w 44 #[.int .i64 11, .int .i64 1, .int .i64 50, .int .i64 1, .int .i64 0, .int .i64 2, .int .i64 8, .int .i64 0, .int .i64 1, .int .i64 9, .int .i64 0, .int .i64 1]
  have HRows := Lib.hid (show RowsAt (w.alloc (.cells #[.int .i64 11, .int .i64 1, .int .i64 50, .int .i64 1, .int .i64 0, .int .i64 2, .int .i64 8, .int .i64 0, .int .i64 1, .int .i64 9, .int .i64 0, .int .i64 1] 44)) 3 (some ⟨w.heap.size, 0, none⟩) worksL from fun _ => ⟨w.heap.size, 0, rfl, hAt.inside, fun i row j x hi hj => by
    rcases i with _ | _ | _ | _ | i
    all_goals first
      | (simp [worksL] at hi; done)
      | (simp [worksL] at hi; subst hi; rcases j with _ | _ | _ | j <;> first | (simp at hj; done) | (simp at hj; subst hj; exact hAt.here rfl))⟩)
  have HB0 := Lib.hid ((Below.refl w.heap.size w).alloc (Nat.le_refl _) (.cells #[.int .i64 11, .int .i64 1, .int .i64 50, .int .i64 1, .int .i64 0, .int .i64 2, .int .i64 8, .int .i64 0, .int .i64 1, .int .i64 9, .int .i64 0, .int .i64 1] 44))
  have HFit := Lib.hid (show ∀ row ∈ worksL, row.length = 3 ∧ ∀ x ∈ row, (-9223372036854775808 : Int) ≤ x ∧ x ≤ 9223372036854775807 by decide)
  clear hAt
  go_enter Tryz.func24, Tryz.ntmps24
  go_wp2_with fail
  refine (keepRunning (some ⟨w.heap.size, 0, none⟩) 4 worksL _ HFit.out HRows.out (by decide)).mono ?_
  rintro e w1 ⟨q, rfl, hn, hb⟩
  rw [E1.out] at hn
  have HN := Lib.hid (hn.mono (R' := fun b => b < w.heap.size) fun b hb2 => Nat.lt_of_lt_of_le hb2 HB0.out.size)
  have HB1 := Lib.hid (HB0.out.trans (hb.mono HB0.out.size))
  clear hn hb HRows
  go_wp2_with fail
  refine (woReqsOf HN.out).mono ?_
  intro e w2 hp
  rw [F2.out] at hp
  obtain ⟨b, cap, rfl, hb2, hbl, hbg, c3, c4⟩ := reqs_one hp
  rw [F3.out] at c3
  rw [F4.out] at c4
  have HN2 := Lib.hid (HN.out.below hb2)
  have HB2 := Lib.hid (HB1.out.trans (hb2.mono HB1.out.size))
  clear hp hb2 HN HB1
  go_wp2_with fail
  refine (woTarget HN2.out).mono ?_
  rintro e w' ⟨rfl, rfl⟩
  rw [F1.out]
  go_wp2_with fail
  refine (woDo 12 0 1 HN2.out K1.out (by omega) (by omega) (by omega)).mono ?_
  rintro e w3 ⟨rfl, hc⟩
  rw [F5.out]
  rw [E2.out] at hc
  have HN3 := Lib.hid hc.1
  have HB3 := Lib.hid (HB2.out.trans (hc.2.below HB2.out.size (fun k hk h => h hk)))
  clear hc HN2 HB2 c3 c4
  go_wp2_with fail
  refine (woReqsOf HN3.out).mono ?_
  intro e w4 hp
  rw [F6.out] at hp
  obtain ⟨b5, cap5, rfl, hb4, hbl5, hbg5, c3, c4⟩ := reqs_one hp
  rw [F7.out] at c3
  have HB4 := Lib.hid (HB3.out.trans (hb4.mono HB3.out.size))
  clear hp hb4 HN3 HB3
  go_wp2_with fail
  go_ret
  exact ⟨rfl, HB4.out⟩
end Go.Proofs.YtlfaogkdghnmcaaGreat
