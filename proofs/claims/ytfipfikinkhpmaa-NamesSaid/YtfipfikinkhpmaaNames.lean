/- The walk of Names. -/
import Derived.Test.YtfipfikinkhpmaaRows
import Derived.WalkKit
import Derived.WalkSpells
import Derived.WalkLawsBesides
import Derived.Lib.Hide
import Derived.Handy
import Derived.Test.YtfipfikinkhpmaaMem
namespace Go.Proofs.Ytfipfikinkhpmaa
open Go.RowKit
set_option linter.unusedVariables false

def upTo : Nat → Array Value
  | 0 => #[.int .i64 1, .int .i64 2, .int .i64 3]
  | 1 => #[.int .i64 1, .int .i64 2, .int .i64 3, .int .i64 4]
  | 2 => #[.int .i64 1, .int .i64 2, .int .i64 3, .int .i64 4, .int .i64 5]
  | _ => #[.int .i64 1, .int .i64 2, .int .i64 3, .int .i64 4, .int .i64 5, .int .i64 6, .int .i64 7, .int .i64 8, .int .i64 9, .int .i64 10, .int .i64 11, .int .i64 12, .int .i64 13]
def many : Nat → Nat
  | 0 => 3
  | 1 => 4
  | 2 => 5
  | _ => 13
theorem many_le (t : Nat) : many t ≤ 13 := by match t with | 0 | 1 | 2 | _ + 3 => simp [many]
theorem upTo_get (t i : Nat) (h : i < many t) : (upTo t)[i]? = some (.int .i64 ((i : Int) + 1)) := by
  match t with
  | 0 => match i, h with | 0, _ | 1, _ | 2, _ => rfl
  | 1 => match i, h with | 0, _ | 1, _ | 2, _ | 3, _ => rfl
  | 2 => match i, h with | 0, _ | 1, _ | 2, _ | 3, _ | 4, _ => rfl
  | _ + 3 => match i, h with | 0, _ | 1, _ | 2, _ | 3, _ | 4, _ | 5, _ | 6, _ | 7, _ | 8, _ | 9, _ | 10, _ | 11, _ | 12, _ => rfl
def eight : Array Value := #[.int .i64 0, .int .i64 1, .int .i64 2, .int .i64 3, .int .i64 4, .int .i64 5, .int .i64 6, .int .i64 7]
theorem eight_get (i : Nat) (h : i < 8) : eight[i]? = some (.int .i64 (i : Int)) := by
  match i, h with | 0, _ | 1, _ | 2, _ | 3, _ | 4, _ | 5, _ | 6, _ | 7, _ => rfl

def four (H : Nat) : Array Value := #[.slice (some ⟨H, 0, none⟩) 3 3, .slice (some ⟨H + 1, 0, none⟩) 4 4, .slice (some ⟨H + 1 + 1, 0, none⟩) 5 5, .slice (some ⟨H + 1 + 1 + 1, 0, none⟩) 13 13]
def laidW (w1 : World) : World := ((((w1.alloc (.cells (upTo 0) 3)).alloc (.cells (upTo 1) 3)).alloc (.cells (upTo 2) 3)).alloc (.cells (upTo 3) 3)).alloc (.cells (four w1.heap.size) 24)
theorem laid_row (w1 : World) (t : Nat) (h : t < 4) : (laidW w1).cell? ⟨w1.heap.size + 1 + 1 + 1 + 1, t, none⟩ = some (.slice (some ⟨w1.heap.size + t, 0, none⟩) (many t) (many t)) := by
  have h1 := Tide.At.made ((((w1.alloc (.cells (upTo 0) 3)).alloc (.cells (upTo 1) 3)).alloc (.cells (upTo 2) 3)).alloc (.cells (upTo 3) 3)) 24 (four w1.heap.size)
  simp only [World.size_alloc] at h1
  refine h1.here ?_
  match t, h with | 0, _ | 1, _ | 2, _ | 3, _ => rfl
theorem laid_cell (w1 : World) (t i : Nat) (h : t < 4) (hi : i < many t) : (laidW w1).cell? ⟨w1.heap.size + t, i, none⟩ = some (.int .i64 ((i : Int) + 1)) := by
  have e : Tide.At (laidW w1) (w1.heap.size + t) 3 (upTo t) := by
    have h0 := (((Tide.At.made w1 3 (upTo 0)).alloc (.cells (upTo 1) 3)).alloc (.cells (upTo 2) 3)).alloc (.cells (upTo 3) 3)
    have h1 := ((Tide.At.made (w1.alloc (.cells (upTo 0) 3)) 3 (upTo 1)).alloc (.cells (upTo 2) 3)).alloc (.cells (upTo 3) 3)
    have h2 := (Tide.At.made ((w1.alloc (.cells (upTo 0) 3)).alloc (.cells (upTo 1) 3)) 3 (upTo 2)).alloc (.cells (upTo 3) 3)
    have h3 := Tide.At.made (((w1.alloc (.cells (upTo 0) 3)).alloc (.cells (upTo 1) 3)).alloc (.cells (upTo 2) 3)) 3 (upTo 3)
    simp only [World.size_alloc] at h1 h2 h3
    match t, h with
    | 0, _ => exact h0.alloc _
    | 1, _ => exact h1.alloc _
    | 2, _ => exact h2.alloc _
    | 3, _ => exact h3.alloc _
  exact e.here (upTo_get t i hi)
theorem laid_below {w w1 : World} (hb : Below w.heap.size w w1) : Below w.heap.size w (laidW w1) := by
  have := hb.size
  unfold laidW
  refine ((((hb.alloc (by omega) _).alloc (by simp; omega) _).alloc (by simp; omega) _).alloc (by simp; omega) _).alloc (by simp; omega) _

set_option maxRecDepth 100000 in
set_option maxHeartbeats 3200000 in
theorem names_walk (w : World) : Calls Try.prog 3 #[] w fun e w' => e = .returned (.bool true) ∧ Below w.heap.size w w' := by
  go_enter Try.func3, Try.ntmps3
  go_wp2_with fail
  have h8 : ∀ i : Nat, i < 8 → (w.alloc (.cells eight 22)).cell? ⟨w.heap.size, i, none⟩ = some (.int .i64 (i : Int)) := fun i hi => (Tide.At.made w 22 eight).here (eight_get i hi)
  have hb : Below w.heap.size w (w.alloc (.cells eight 22)) := (Below.refl _ _).alloc (Nat.le_refl _) _
  change Code.wp _ _ _ _ (w.alloc (.cells eight 22))
  generalize (w.alloc (.cells eight 22)) = w1 at h8 hb ⊢
  have H8 := Lib.hid h8
  clear h8
  go_loop [9] (fun i => ∃ k : Nat, k ≤ 8 ∧ i = .int .i64 k) (fun i => 8 - (intOf i).toNat)
  case atStart => exact ⟨0, by omega, rfl⟩
  case round =>
    obtain ⟨k, hk, rfl⟩ := hrel
    by_cases hlt : k < 8
    · have hc := H8.out k hlt
      have k0 : (0 : Int) ≤ (k : Int) := by omega
      have k1 : (k : Int) < 8 := by omega
      go_wp2_with fail
      go_round
      case rel => exact ⟨k + 1, by omega, by go_num⟩
      case measure => simp [intOf]; omega
    · clear H8
      go_wp2_with fail
      have hb2 := laid_below hb
      have hr := Lib.hid (laid_row w1)
      have hc := Lib.hid (laid_cell w1)
      change Code.wp _ _ _ _ (laidW w1)
      generalize laidW w1 = w2 at hb2 hr hc ⊢
      generalize w1.heap.size = H at hr hc ⊢
      clear hb
      go_loop [25] (fun i => ∃ t : Nat, t ≤ 4 ∧ i = .int .i64 t) (fun i => 4 - (intOf i).toNat)
      case atStart => exact ⟨0, by omega, rfl⟩
      case round =>
        obtain ⟨t, ht, rfl⟩ := hrel
        by_cases hlt2 : t < 4
        · have q0 := hr.out t hlt2
          have q1 := Lib.hid (fun i h => hc.out t i hlt2 h)
          have q2 := many_le t
          have t0 : (0 : Int) ≤ (t : Int) := by omega
          have t1 : (t : Int) < 4 := by omega
          go_wp2_with fail
          generalize many t = m at q0 q1 q2 ⊢
          go_loop [31] (fun i => ∃ k : Nat, k ≤ m ∧ i = .int .i64 k) (fun i => m - (intOf i).toNat)
          case atStart => exact ⟨0, by omega, rfl⟩
          case round =>
            obtain ⟨k, hk, rfl⟩ := hrel
            by_cases hlt3 : k < m
            · have q3 := q1.out k hlt3
              have k0 : (0 : Int) ≤ (k : Int) := by omega
              have k1 : (k : Int) < (m : Int) := by omega
              go_wp2_with fail
              go_round
              case rel => exact ⟨k + 1, by omega, by go_num⟩
              case measure => simp [intOf]; omega
            · clear q1 q0
              go_wp2_with fail
              go_round
              case rel => exact ⟨t + 1, by omega, by go_num⟩
              case measure => simp [intOf]; omega
        · clear hr hc
          go_wp2_with fail
          go_ret
          exact ⟨rfl, hb2⟩
end Go.Proofs.Ytfipfikinkhpmaa
