/- The contract of loads; the facts at the start of FleetCounts. -/
import Derived.Test.YtgcdomoecikooaaFleJ
namespace Tide
theorem sum_snoc {l : List Pod} {k : Nat} {p : Pod} (h : l[k]? = some p) : sumL (l.take (k + 1)) = sumL (l.take k) + p.load := by
  have : l.take (k + 1) = l.take k ++ [p] := by
    rw [List.take_add_one, h]; rfl
  unfold sumL
  rw [this, List.map_append, List.sum_append]
  simp
theorem sum_in {l : List Pod} (h : ∀ p ∈ l, 0 ≤ p.load ∧ p.load ≤ 1000) : ∀ k : Nat, 0 ≤ sumL (l.take k) ∧ sumL (l.take k) ≤ 1000 * k
  | 0 => by simp [sumL]
  | k + 1 => by
    have ih := sum_in h k
    cases hp : l[k]? with
    | none =>
      have : l.take (k + 1) = l.take k := by rw [List.take_add_one, hp]; simp
      rw [this]; omega
    | some p =>
      have := h p (List.mem_of_getElem? hp)
      rw [sum_snoc hp]; omega
theorem sum_all {l : List Pod} (h : ∀ p ∈ l, 0 ≤ p.load ∧ p.load ≤ 1000) : 0 ≤ sumL l ∧ sumL l ≤ 1000 * l.length := by
  have := sum_in h l.length
  rw [List.take_length] at this
  exact this
end Tide
namespace Go.Proofs.Ytgcdomoecikooaa
open Go.RowKit
set_option linter.unusedVariables false
/-- a pod of a row of one's own, cell by cell -/
theorem row_pod {S : Nat → Prop} {w : World} {v : Value} {l : List Tide.Pod} (h : Tide.OwnRow S w 64 3 v l.length (l.flatMap Tide.Pod.enc)) {k : Nat} {p : Tide.Pod} (hp : l[k]? = some p) :
    ∃ b cap, v = .slice (some ⟨b, 0, none⟩) l.length cap ∧ S b ∧ w.cell? ⟨b, k * 3, none⟩ = some (.int .i64 p.id) ∧ w.cell? ⟨b, k * 3 + 1, none⟩ = some (.int .i64 p.state) ∧ w.cell? ⟨b, k * 3 + 2, none⟩ = some (.int .i64 p.load) := by
  obtain ⟨b, cap, e, hS, h1, h2, h3⟩ := h.form (by have := Tide.get_lt hp; omega)
  exact ⟨b, cap, e, hS, h3.cell (Tide.flat_get (j := 0) Tide.Pod.enc_length hp rfl), h3.cell (Tide.flat_get (j := 1) Tide.Pod.enc_length hp rfl), h3.cell (Tide.flat_get (j := 2) Tide.Pod.enc_length hp rfl)⟩
set_option maxRecDepth 100000 in
set_option maxHeartbeats 1600000 in
theorem fleLoads (S : Nat → Prop) (g : Nat) (v : Value) (l : List Tide.Pod) (last most : Int) (w : World) (h : FAt 88 S w g v l last most) (hld : ∀ p ∈ l, 0 ≤ p.load ∧ p.load ≤ 1000) :
    Calls Try.prog 37 #[.pointer (some ⟨g, 0, none⟩)] w (FleRead w (.int .i64 (Tide.sumL l))) := by
  have hs := h.small
  have HH := Lib.hid h; have HLd := Lib.hid hld
  clear h hld
  go_enter Try.func37, Try.ntmps37
  go_wp2_with fail
  refine (fleAll S g v l last most _ HH.out).mono ?_
  rintro e w1 ⟨u1, rfl, o1, b1⟩
  obtain ⟨A, cap, rfl, _, _, _⟩ := o1.slice
  have HO := Lib.hid o1; have HB1 := Lib.hid b1
  clear o1 b1
  go_wp2_with fail
  go_loopw [3, 9] (fun s i wr => ∃ k : Nat, k ≤ l.length ∧ i = .int .i64 k ∧ s = .int .i64 (Tide.sumL (l.take k)) ∧ Hid (Below w1.heap.size w1 wr)) (fun _ i _ => l.length - (intOf i).toNat)
  case atStart => exact ⟨0, by omega, rfl, rfl, Lib.hid (Below.refl _ _)⟩
  case round =>
    obtain ⟨k, hk, rfl, rfl, HB⟩ := hrel
    have si := Tide.sum_in HLd.out k
    by_cases hlt : k < l.length
    · obtain ⟨p, hp⟩ := Tide.get_some l hlt
      obtain ⟨b, cap', e, hS, c0, c1, c2⟩ := row_pod (HO.out.below HB.out (Nat.le_refl _)) hp
      cases e
      have i0 : (0 : Int) ≤ (k : Int) := by omega
      have i1 : (k : Int) < (l.length : Int) := by omega
      have HSn := Lib.hid (Tide.sum_snoc hp)
      have ld := HLd.out p (List.mem_of_getElem? hp)
      have HBn := Lib.hid (HB.out.alloc HB.out.size (.cells #[.int .i64 p.id, .int .i64 p.state, .int .i64 p.load] 64))
      generalize Tide.sumL (l.take k) = M at si HSn ⊢
      have hw : IntKind.i64.wrap (M + p.load) = M + p.load := IntWalk.i64_in _ (by omega)
      clear hp
      go_wp2_with fail
      go_roundw
      case rel => exact ⟨k + 1, by omega, by go_num, by rw [HSn.out] <;> first | rfl | go_num, HBn⟩
      case measure => simp [intOf]; omega
    · have hke : k = l.length := by omega
      subst hke
      rw [List.take_length]
      have HF := Lib.hid (HB1.out.trans (HB.out.mono HB1.out.size))
      go_wp2_with fail
      go_ret
      exact ⟨rfl, HF.out⟩
theorem counts_facts : Tide.scaleErr 2 = 0 ∧ Tide.scaleLst [] 0 2 = [⟨1, 1, 0⟩, ⟨2, 1, 0⟩] ∧ Tide.scaleLast [] 0 2 = 2 ∧ Tide.liveN [⟨1, 1, 0⟩, ⟨2, 1, 0⟩] = 2 ∧
    Tide.turnErr [⟨1, 1, 0⟩, ⟨2, 1, 0⟩] 1 1 = 0 ∧ Tide.turnLst [⟨1, 1, 0⟩, ⟨2, 1, 0⟩] 1 1 2 = [⟨1, 2, 0⟩, ⟨2, 1, 0⟩] ∧
    Tide.turnErr [⟨1, 2, 0⟩, ⟨2, 1, 0⟩] 1 2 = 0 ∧ Tide.turnLst [⟨1, 2, 0⟩, ⟨2, 1, 0⟩] 1 2 3 = [⟨1, 3, 0⟩, ⟨2, 1, 0⟩] ∧
    Tide.giveNum [⟨1, 3, 0⟩, ⟨2, 1, 0⟩] (mostOf 1) = 1 ∧ Tide.giveErr [⟨1, 3, 0⟩, ⟨2, 1, 0⟩] (mostOf 1) = 0 ∧ Tide.giveLst [⟨1, 3, 0⟩, ⟨2, 1, 0⟩] (mostOf 1) = [⟨1, 3, 1⟩, ⟨2, 1, 0⟩] := by decide +kernel
theorem counts_facts2 : Tide.scaleErr 0 = 0 ∧ Tide.scaleLst [⟨1, 3, 1⟩, ⟨2, 1, 0⟩] 2 0 = [⟨1, 4, 1⟩] ∧ Tide.scaleLast [⟨1, 3, 1⟩, ⟨2, 1, 0⟩] 2 0 = 2 ∧
    Tide.podDoneErr [⟨1, 4, 1⟩] 1 = 0 ∧ Tide.podDoneLst [⟨1, 4, 1⟩] 1 = [] := by decide +kernel
end Go.Proofs.Ytgcdomoecikooaa
