/- The contract of the reference's NewCalm. -/
import Derived.Test.YtgkbdoecpbepbaaStbH
import Derived.Deep.RegionHeld3
namespace Go.Proofs.Ytgkbdoecpbepbaa
open Go.RowKit
set_option linter.unusedVariables false
def clipIf (b : Bool) (a : Int) : Int := if b then Tide.clipT a else a
def fixCells (a b c d : Int) (k : Nat) : Array Value := #[.int .i64 (clipIf (decide (0 < k)) a), .int .i64 (clipIf (decide (1 < k)) b), .int .i64 (clipIf (decide (2 < k)) c), .int .i64 (clipIf (decide (3 < k)) d)]
/-- what is there at the head of the loop -/
structure FixAt (w wr : World) (a b c d : Int) (k : Nat) : Prop where
  box : Tide.At wr w.heap.size 52 (fixCells a b c d k)
  res : Tide.At wr (w.heap.size + 1) 52 #[.int .i64 0, .int .i64 0, .int .i64 0, .int .i64 0]
  row : Tide.At wr (w.heap.size + 2) 95 #[.pointer (some ⟨w.heap.size, 0, none⟩), .pointer (some ⟨w.heap.size, 1, none⟩), .pointer (some ⟨w.heap.size, 2, none⟩), .pointer (some ⟨w.heap.size, 3, none⟩)]
  below : Below w.heap.size w wr
theorem FixAt.put {w wr : World} {a b c d : Int} {k : Nat} {x : Int} (h : FixAt w wr a b c d k) (hx : (fixCells a b c d k).setIfInBounds k (.int .i64 x) = fixCells a b c d (k + 1)) : FixAt w (wr.setCell ⟨w.heap.size, k, none⟩ (.int .i64 x)) a b c d (k + 1) := by
  have h1 := h.box.put k (.int .i64 x)
  rw [hx] at h1
  exact ⟨h1, h.res.other (p := ⟨w.heap.size, k, none⟩) (by show w.heap.size + 1 ≠ w.heap.size; omega) _, h.row.other (p := ⟨w.heap.size, k, none⟩) (by show w.heap.size + 2 ≠ w.heap.size; omega) _, h.below.setCell (p := ⟨w.heap.size, k, none⟩) (Nat.le_refl _) _⟩
theorem FixAt.same {w wr : World} {a b c d : Int} {k : Nat} (h : FixAt w wr a b c d k) (hx : fixCells a b c d k = fixCells a b c d (k + 1)) : FixAt w wr a b c d (k + 1) := ⟨hx ▸ h.box, h.res, h.row, h.below⟩
set_option maxRecDepth 100000 in
set_option maxHeartbeats 6400000 in
theorem calFix (a b c d : Int) (w : World) : Calls Try.prog 49 #[.agg #[.int .i64 a, .int .i64 b, .int .i64 c, .int .i64 d]] w fun e w' => e = .returned (.agg #[.int .i64 (Tide.clipT a), .int .i64 (Tide.clipT b), .int .i64 (Tide.clipT c), .int .i64 (Tide.clipT d)]) ∧ Below w.heap.size w w' := by
  have hbl : Below w.heap.size w (((w.alloc (.cells #[.int .i64 a, .int .i64 b, .int .i64 c, .int .i64 d] 52)).alloc (.cells #[.int .i64 0, .int .i64 0, .int .i64 0, .int .i64 0] 52)).alloc (.cells #[.pointer (some ⟨w.heap.size, 0, none⟩), .pointer (some ⟨w.heap.size, 1, none⟩), .pointer (some ⟨w.heap.size, 2, none⟩), .pointer (some ⟨w.heap.size, 3, none⟩)] 95)) := (((Below.refl _ _).alloc (Nat.le_refl _) _).alloc (by simp) _).alloc (by simp <;> omega) _
  have hr1 : Tide.At _ (w.alloc (.cells #[.int .i64 a, .int .i64 b, .int .i64 c, .int .i64 d] 52)).heap.size 52 #[.int .i64 0, .int .i64 0, .int .i64 0, .int .i64 0] := Tide.At.made (w.alloc (.cells #[.int .i64 a, .int .i64 b, .int .i64 c, .int .i64 d] 52)) _ _
  have hr2 : Tide.At _ ((w.alloc (.cells #[.int .i64 a, .int .i64 b, .int .i64 c, .int .i64 d] 52)).alloc (.cells #[.int .i64 0, .int .i64 0, .int .i64 0, .int .i64 0] 52)).heap.size 95 #[.pointer (some ⟨w.heap.size, 0, none⟩), .pointer (some ⟨w.heap.size, 1, none⟩), .pointer (some ⟨w.heap.size, 2, none⟩), .pointer (some ⟨w.heap.size, 3, none⟩)] := Tide.At.made _ _ _
  have z1 : (w.alloc (.cells #[.int .i64 a, .int .i64 b, .int .i64 c, .int .i64 d] 52)).heap.size = w.heap.size + 1 := by simp
  have z2 : ((w.alloc (.cells #[.int .i64 a, .int .i64 b, .int .i64 c, .int .i64 d] 52)).alloc (.cells #[.int .i64 0, .int .i64 0, .int .i64 0, .int .i64 0] 52)).heap.size = w.heap.size + 2 := by simp
  rw [z1] at hr1; rw [z2] at hr2
  have H0 := Lib.hid (show FixAt w _ a b c d 0 from ⟨((Tide.At.made w 52 _).alloc (.cells #[.int .i64 0, .int .i64 0, .int .i64 0, .int .i64 0] 52)).alloc _, hr1.alloc _, hr2, hbl⟩)
  clear hbl hr1 hr2 z1 z2
  go_enter Try.func49, Try.ntmps49
  go_wp2_with fail
  go_loopw [11] (fun i wr => ∃ k : Nat, k ≤ 4 ∧ i = .int .i64 k ∧ Hid (FixAt w wr a b c d k)) (fun i _ => 4 - (intOf i).toNat)
  case atStart => exact ⟨0, by omega, rfl, H0⟩
  case round =>
    clear H0
    obtain ⟨k, hk, rfl, HF⟩ := hrel
    rcases (show k = 0 ∨ k = 1 ∨ k = 2 ∨ k = 3 ∨ k = 4 by omega) with rfl | rfl | rfl | rfl | rfl
    · have hp := HF.out.row.here (i := 0) rfl
      have hc := HF.out.box.here (i := 0) rfl
      have hf := HF.out.box.soft 0
      change _ = some (Value.int .i64 a) at hc
      by_cases q1 : a < 0
      · have HN := Lib.hid (HF.out.put (x := 0) (by simp [fixCells, clipIf, Tide.clipT]; omega))
        go_wp2_with fail
        go_roundw
        case rel => exact ⟨1, by omega, by go_num, HN⟩
        case measure => simp [intOf]
      · have q1' : 0 ≤ a := by omega
        by_cases q2 : 100000 < a
        · have HN := Lib.hid (HF.out.put (x := 100000) (by simp [fixCells, clipIf, Tide.clipT]; omega))
          clear q1
          go_wp2_with fail
          go_roundw
          case rel => exact ⟨1, by omega, by go_num, HN⟩
          case measure => simp [intOf]
        · have q2' : a ≤ 100000 := by omega
          have HN := Lib.hid (HF.out.same (by simp [fixCells, clipIf, Tide.clipT]; omega))
          clear q1 q2
          go_wp2_with fail
          go_roundw
          case rel => exact ⟨1, by omega, by go_num, HN⟩
          case measure => simp [intOf]
    · have hp := HF.out.row.here (i := 1) rfl
      have hc := HF.out.box.here (i := 1) rfl
      have hf := HF.out.box.soft 1
      change _ = some (Value.int .i64 b) at hc
      by_cases q1 : b < 0
      · have HN := Lib.hid (HF.out.put (x := 0) (by simp [fixCells, clipIf, Tide.clipT]; omega))
        go_wp2_with fail
        go_roundw
        case rel => exact ⟨2, by omega, by go_num, HN⟩
        case measure => simp [intOf]
      · have q1' : 0 ≤ b := by omega
        by_cases q2 : 100000 < b
        · have HN := Lib.hid (HF.out.put (x := 100000) (by simp [fixCells, clipIf, Tide.clipT]; omega))
          clear q1
          go_wp2_with fail
          go_roundw
          case rel => exact ⟨2, by omega, by go_num, HN⟩
          case measure => simp [intOf]
        · have q2' : b ≤ 100000 := by omega
          have HN := Lib.hid (HF.out.same (by simp [fixCells, clipIf, Tide.clipT]; omega))
          clear q1 q2
          go_wp2_with fail
          go_roundw
          case rel => exact ⟨2, by omega, by go_num, HN⟩
          case measure => simp [intOf]
    · have hp := HF.out.row.here (i := 2) rfl
      have hc := HF.out.box.here (i := 2) rfl
      have hf := HF.out.box.soft 2
      change _ = some (Value.int .i64 c) at hc
      by_cases q1 : c < 0
      · have HN := Lib.hid (HF.out.put (x := 0) (by simp [fixCells, clipIf, Tide.clipT]; omega))
        go_wp2_with fail
        go_roundw
        case rel => exact ⟨3, by omega, by go_num, HN⟩
        case measure => simp [intOf]
      · have q1' : 0 ≤ c := by omega
        by_cases q2 : 100000 < c
        · have HN := Lib.hid (HF.out.put (x := 100000) (by simp [fixCells, clipIf, Tide.clipT]; omega))
          clear q1
          go_wp2_with fail
          go_roundw
          case rel => exact ⟨3, by omega, by go_num, HN⟩
          case measure => simp [intOf]
        · have q2' : c ≤ 100000 := by omega
          have HN := Lib.hid (HF.out.same (by simp [fixCells, clipIf, Tide.clipT]; omega))
          clear q1 q2
          go_wp2_with fail
          go_roundw
          case rel => exact ⟨3, by omega, by go_num, HN⟩
          case measure => simp [intOf]
    · have hp := HF.out.row.here (i := 3) rfl
      have hc := HF.out.box.here (i := 3) rfl
      have hf := HF.out.box.soft 3
      change _ = some (Value.int .i64 d) at hc
      by_cases q1 : d < 0
      · have HN := Lib.hid (HF.out.put (x := 0) (by simp [fixCells, clipIf, Tide.clipT]; omega))
        go_wp2_with fail
        go_roundw
        case rel => exact ⟨4, by omega, by go_num, HN⟩
        case measure => simp [intOf]
      · have q1' : 0 ≤ d := by omega
        by_cases q2 : 100000 < d
        · have HN := Lib.hid (HF.out.put (x := 100000) (by simp [fixCells, clipIf, Tide.clipT]; omega))
          clear q1
          go_wp2_with fail
          go_roundw
          case rel => exact ⟨4, by omega, by go_num, HN⟩
          case measure => simp [intOf]
        · have q2' : d ≤ 100000 := by omega
          have HN := Lib.hid (HF.out.same (by simp [fixCells, clipIf, Tide.clipT]; omega))
          clear q1 q2
          go_wp2_with fail
          go_roundw
          case rel => exact ⟨4, by omega, by go_num, HN⟩
          case measure => simp [intOf]
    · have c0 : wr.cell? ⟨w.heap.size, 0, none⟩ = some (.int .i64 (Tide.clipT a)) := HF.out.box.here (i := 0) rfl
      have c1 : wr.cell? ⟨w.heap.size, 1, none⟩ = some (.int .i64 (Tide.clipT b)) := HF.out.box.here (i := 1) rfl
      have c2 : wr.cell? ⟨w.heap.size, 2, none⟩ = some (.int .i64 (Tide.clipT c)) := HF.out.box.here (i := 2) rfl
      have c3 : wr.cell? ⟨w.heap.size, 3, none⟩ = some (.int .i64 (Tide.clipT d)) := HF.out.box.here (i := 3) rfl
      have r0 := HF.out.res.here (i := 0) rfl; have r1 := HF.out.res.here (i := 1) rfl; have r2 := HF.out.res.here (i := 2) rfl; have r3 := HF.out.res.here (i := 3) rfl
      have f0 := HF.out.res.soft 0; have f1 := HF.out.res.soft 1; have f2 := HF.out.res.soft 2; have f3 := HF.out.res.soft 3
      have HB := Lib.hid HF.out.below
      have hbz := HF.out.res.inside
      have HR := Lib.hid HF.out.res
      go_wp2_with fail
      have q3 := (((HR.out.put 0 (.int .i64 (Tide.clipT a))).put 1 (.int .i64 (Tide.clipT b))).put 2 (.int .i64 (Tide.clipT c))).put 3 (.int .i64 (Tide.clipT d))
      have d0 := q3.here (i := 0) rfl; have d1 := q3.here (i := 1) rfl; have d2 := q3.here (i := 2) rfl; have d3 := q3.here (i := 3) rfl
      refine bodyPost_ret (v := .agg #[.int .i64 (Tide.clipT a), .int .i64 (Tide.clipT b), .int .i64 (Tide.clipT c), .int .i64 (Tide.clipT d)]) (by simp [results, Try.results49, go_sem, d0, d1, d2, d3]) rfl ⟨rfl, ?_⟩
      exact (((HB.out.setCell (p := ⟨w.heap.size + 1, 0, none⟩) (by simp) _).setCell (p := ⟨w.heap.size + 1, 1, none⟩) (by simp) _).setCell (p := ⟨w.heap.size + 1, 2, none⟩) (by simp) _).setCell (p := ⟨w.heap.size + 1, 3, none⟩) (by simp) _
theorem fix4 (a b c d : Int) (w0 W : World) (h : Below w0.heap.size w0 W) : Calls Try.prog 49 #[.agg #[.int .i64 a, .int .i64 b, .int .i64 c, .int .i64 d]] W fun e w' => e = .returned (.agg #[.int .i64 (Tide.clipT a), .int .i64 (Tide.clipT b), .int .i64 (Tide.clipT c), .int .i64 (Tide.clipT d)]) ∧ Below w0.heap.size w0 w' ∧ (∀ b o, b < W.heap.size → w'.cell? ⟨b, o, none⟩ = W.cell? ⟨b, o, none⟩) :=
  (calFix a b c d W).mono fun _ _ ⟨he, hb⟩ => ⟨he, h.trans (hb.mono h.size), hb.cell_frozen.1⟩
set_option maxRecDepth 100000 in
set_option maxHeartbeats 1600000 in
theorem calNew (u d : Tide.Pace) (w : World) : Calls Try.prog 29 #[.agg #[.int .i64 u.win, .int .i64 u.pods, .int .i64 u.pct, .int .i64 u.per], .agg #[.int .i64 d.win, .int .i64 d.pods, .int .i64 d.pct, .int .i64 d.per]] w (NewStbPost 99 104 w (Tide.newStb u d)) := by
  have hA := (Tide.At.made w 52 #[.int .i64 u.win, .int .i64 u.pods, .int .i64 u.pct, .int .i64 u.per]).alloc (.cells #[.int .i64 d.win, .int .i64 d.pods, .int .i64 d.pct, .int .i64 d.per] 52)
  have hB := Tide.At.made (w.alloc (.cells #[.int .i64 u.win, .int .i64 u.pods, .int .i64 u.pct, .int .i64 u.per] 52)) 52 #[.int .i64 d.win, .int .i64 d.pods, .int .i64 d.pct, .int .i64 d.per]
  simp only [World.size_alloc] at hB
  have hb0 : Below w.heap.size w ((w.alloc (.cells #[.int .i64 u.win, .int .i64 u.pods, .int .i64 u.pct, .int .i64 u.per] 52)).alloc (.cells #[.int .i64 d.win, .int .i64 d.pods, .int .i64 d.pct, .int .i64 d.per] 52)) := ((Below.refl _ _).alloc (Nat.le_refl _) _).alloc (by simp) _
  have HA := Lib.hid hA.drew; have HB := Lib.hid hB.drew; have H0 := Lib.hid hb0.drew
  clear hA hB hb0
  go_enter Try.func29, Try.ntmps29
  go_wp2_with fail
  have hb1 := H0.out
  go_region_with (go_at_call 49; refine (fix4 _ _ _ _ w _ (by assumption)).mono ?_; rintro e w1 ⟨rfl, hb1, hc1⟩)
  all_goals
    have HF := Lib.hid (stb_made (T := 99) (TM := 104) (s := Tide.newStb u d) hb1 rfl rfl)
    clear hb1
    go_wp2_with fail
    go_ret
    exact HF.out
end Go.Proofs.Ytgkbdoecpbepbaa
