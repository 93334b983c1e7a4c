/- The walk of CronReads. -/
import Derived.Test.YthelnkoohbnjpaaDoorRdrC
set_option linter.unusedVariables false
set_option linter.unusedSimpArgs false
namespace Go.Proofs.YthelnkoohbnjpaaDoor
open Go.RowKit
set_option linter.unusedVariables false
theorem cronV_form (s : ByteArray) : ∃ (a0 a1 a2 a3 a4 : Nat) (b5 b6 : Bool), cronV s = #[.int .u64 (a0 : Int), .int .u64 (a1 : Int), .int .u64 (a2 : Int), .int .u64 (a3 : Int), .int .u64 (a4 : Int), .bool b5, .bool b6] := by
  unfold cronV
  split
  · exact ⟨_, _, _, _, _, _, _, rfl⟩
  · exact ⟨0, 0, 0, 0, 0, false, false, rfl⟩
set_option maxRecDepth 100000 in
set_option maxHeartbeats 1600000 in
theorem cronReads_walk (s : ByteArray) (m : Int) (w : World) (hm : w.cell? ⟨0, 0, none⟩ = some (.int .i64 m)) : Calls Tryd.prog 3 #[.string s] w fun e w' => e = .returned (.bool true) ∧ Below w.heap.size w w' := by
  obtain ⟨a0, a1, a2, a3, a4, b5, b6, hv⟩ := cronV_form s
  have HV := Lib.hid hv
  have HM := Lib.hid hm
  clear hv hm
  go_enter Tryd.func3, Tryd.ntmps3
  go_wp2_with fail
  refine (cronParse s m _ HM.out).mono ?_
  rintro e w1 ⟨rfl, hb1⟩
  have HB1 := Lib.hid hb1
  rw [HV.out]
  clear hb1
  go_wp2_with fail
  refine (refReadCron s _).mono ?_
  rintro e w2 ⟨rfl, hb2⟩
  rw [HV.out]
  have hA := (Tide.At.made w1 24 #[.int .u64 (a0 : Int), .int .u64 (a1 : Int), .int .u64 (a2 : Int), .int .u64 (a3 : Int), .int .u64 (a4 : Int), .bool b5, .bool b6]).below hb2 (by simp)
  have hlt : w1.heap.size < w2.heap.size := by have := hb2.size; simp at this; omega
  have HF := Lib.hid (HB1.out.trans ((((Below.refl w1.heap.size w1).alloc (Nat.le_refl _) (.cells #[.int .u64 (a0 : Int), .int .u64 (a1 : Int), .int .u64 (a2 : Int), .int .u64 (a3 : Int), .int .u64 (a4 : Int), .bool b5, .bool b6] 24)).trans (hb2.mono (by simp))).mono HB1.out.size))
  have y0 : w2.cell? ⟨w1.heap.size, 0, none⟩ = some (.int .u64 (a0 : Int)) := hA.here rfl
  have y1 : w2.cell? ⟨w1.heap.size, 1, none⟩ = some (.int .u64 (a1 : Int)) := hA.here rfl
  have y2 : w2.cell? ⟨w1.heap.size, 2, none⟩ = some (.int .u64 (a2 : Int)) := hA.here rfl
  have y3 : w2.cell? ⟨w1.heap.size, 3, none⟩ = some (.int .u64 (a3 : Int)) := hA.here rfl
  have y4 : w2.cell? ⟨w1.heap.size, 4, none⟩ = some (.int .u64 (a4 : Int)) := hA.here rfl
  have y5 : w2.cell? ⟨w1.heap.size, 5, none⟩ = some (.bool b5) := hA.here rfl
  have y6 : w2.cell? ⟨w1.heap.size, 6, none⟩ = some (.bool b6) := hA.here rfl
  clear hA hb2
  generalize Tide.cronCode s = C at *
  go_wp2_with fail
  go_ret
  exact ⟨rfl, HF.out.alloc HF.out.size _⟩
end Go.Proofs.YthelnkoohbnjpaaDoor
