/- New; slices.Contains at a list of numbers. -/
import Derived.Test.YtgcdomoecikooaaBufH
namespace Go.Proofs.Ytgcdomoecikooaa
open Go.RowKit
set_option linter.unusedVariables false

def BufNewPost (T : TypeId) (w : World) (e : Ending) (w' : World) : Prop := ∃ g, e = .returned (.pointer (some ⟨g, 0, none⟩)) ∧ BAt T (Tide.Plus (fun _ => False) w w') w' g (.slice none 0 0) [] ∧ Below w.heap.size w w'
set_option maxRecDepth 100000 in
set_option maxHeartbeats 1600000 in
theorem bufNew (w : World) : Calls Try.prog 10 #[] w (BufNewPost 74 w) := by
  have HF := Lib.hid (show BufNewPost 74 w (.returned (.pointer (some ⟨w.heap.size, 0, none⟩))) (w.alloc (.cells #[.slice none 0 0] 74)) from
    ⟨_, rfl, ⟨Tide.At.made w _ _, Tide.OwnRow.nil _ _ _ _, .inr ⟨Nat.le_refl _, by simp⟩, by simp, fun b hb => by rcases hb with hb | hb; exact hb.elim; exact hb.2⟩, (Below.refl _ _).alloc (Nat.le_refl _) _⟩)
  go_enter Try.func10, Try.ntmps10
  go_wp2_with fail
  go_ret
  exact HF.out

theorem ints_slice {S : Nat → Prop} {w : World} {v : Value} {l : List Int} (h : Tide.OwnRow S w 3 1 v l.length (l.map (.int .i64))) :
    ∃ A cap, v = .slice A l.length cap ∧ ∀ (W : World), Below w.heap.size w W → ∀ k x, l[k]? = some x → ∃ b, A = some ⟨b, 0, none⟩ ∧ W.cell? ⟨b, k, none⟩ = some (.int .i64 x) := by
  obtain ⟨A, cap, rfl, h1, h2, h3⟩ := h.slice
  refine ⟨A, cap, rfl, fun W hb k x hk => ?_⟩
  have hkl := Tide.get_lt hk
  obtain ⟨b, rfl, hS, hr⟩ := h3 (by omega)
  refine ⟨b, rfl, ?_⟩
  exact (hb.cell (p := ⟨b, k, none⟩) hr.inside).trans (hr.cell (by rw [List.getElem?_map, hk]; rfl))
set_option maxRecDepth 100000 in
set_option maxHeartbeats 1600000 in
theorem intsIndex (S : Nat → Prop) (v : Value) (l : List Int) (x : Int) (w : World) (h : Tide.OwnRow S w 3 1 v l.length (l.map (.int .i64))) (hs : l.length ≤ 1000000) :
    Calls Try.prog 57 #[v, .int .i64 x] w fun e w' => e = .returned (.int .i64 (Tide.idxOf (Tide.firstAt (fun y => x == y) l))) ∧ w = w' := by
  obtain ⟨A, cap, rfl, hc⟩ := ints_slice h
  have HC := Lib.hid (hc w (Below.refl _ _))
  clear h hc
  go_enter Try.func57, Try.ntmps57
  go_wp2_with fail
  go_loopw [8] (fun i wr => ∃ k : Nat, k ≤ l.length ∧ i = .int .i64 k ∧ Hid (∀ (t : Nat) (b : Int), t < k → l[t]? = some b → (x == b) = false) ∧ w = wr) (fun i _ => l.length - (intOf i).toNat)
  case atStart => exact ⟨0, by omega, rfl, Lib.hid (fun t b ht => by omega), rfl⟩
  case round =>
    obtain ⟨k, hk, rfl, hno, rfl⟩ := hrel
    by_cases hlt : k < l.length
    · obtain ⟨y, hy⟩ := Tide.get_some l hlt
      obtain ⟨b, rfl, c0⟩ := HC.out k y hy
      have i0 : (0 : Int) ≤ (k : Int) := by omega
      have i1 : (k : Int) < (l.length : Int) := by omega
      have HY := Lib.hid hy
      clear hy
      cases hq : (x == y)
      · have HN := Lib.hid (show ∀ (t : Nat) (b : Int), t < k + 1 → l[t]? = some b → (x == b) = false from fun t b ht hb => by
          rcases Nat.lt_succ_iff_lt_or_eq.mp ht with h | h
          · exact hno.out t b h hb
          · subst h; rw [HY.out] at hb; cases hb; exact hq)
        clear hno
        go_wp2_with fail
        go_roundw
        case rel => exact ⟨k + 1, by omega, by go_num, HN, by first | rfl | trivial⟩
        case measure => simp [intOf]; omega
      · have HN := Lib.hid (Tide.firstAt_some hno.out HY.out hq)
        clear hno
        go_wp2_with fail
        go_ret
        exact ⟨by rw [HN.out]; rfl, rfl⟩
    · have hke : k = l.length := by omega
      have HN := Lib.hid (Tide.firstAt_none (p := fun y => x == y) (l := l) (fun t b hb => hno.out t b (by rw [hke]; exact Tide.get_lt hb) hb))
      clear hno hke
      go_wp2_with fail
      go_ret
      exact ⟨by rw [HN.out]; rfl, rfl⟩
theorem idx_has (l : List Int) (x : Int) : decide (0 ≤ Tide.idxOf (Tide.firstAt (fun y => x == y) l)) = decide (x ∈ l) := by
  cases h : Tide.firstAt (fun y => x == y) l with
  | none =>
    have hn : x ∉ l := fun hx => by
      obtain ⟨i, hi⟩ := List.mem_iff_getElem?.1 hx
      have := Tide.firstAt_miss h i x hi
      simp at this
    simp [Tide.idxOf, hn]
  | some i =>
    obtain ⟨a, h1, h2, _⟩ := Tide.firstAt_spec h
    have ha : x = a := by simpa using h2
    have hx : x ∈ l := List.mem_iff_getElem?.2 ⟨i, by rw [ha]; exact h1⟩
    rw [decide_eq_true hx]
    exact decide_eq_true (show (0 : Int) ≤ (i : Int) by omega)
set_option maxRecDepth 100000 in
set_option maxHeartbeats 1600000 in
theorem intsHas (S : Nat → Prop) (v : Value) (l : List Int) (x : Int) (w : World) (h : Tide.OwnRow S w 3 1 v l.length (l.map (.int .i64))) (hs : l.length ≤ 1000000) :
    Calls Try.prog 18 #[v, .int .i64 x] w fun e w' => e = .returned (.bool (decide (x ∈ l))) ∧ w = w' := by
  have HH := Lib.hid h
  clear h
  go_enter Try.func18, Try.ntmps18
  go_wp2_with fail
  refine (intsIndex S v l x _ HH.out hs).mono ?_
  rintro e w1 ⟨rfl, rfl⟩
  have HE := Lib.hid (idx_has l x)
  generalize Tide.idxOf (Tide.firstAt (fun y => x == y) l) = n at HE ⊢
  go_wp2_with fail
  go_ret
  exact ⟨by rw [← HE.out] <;> rfl, rfl⟩
end Go.Proofs.Ytgcdomoecikooaa
