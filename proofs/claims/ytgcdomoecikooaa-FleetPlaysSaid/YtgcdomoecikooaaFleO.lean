/- The contracts of the reference's Crew: Give, Scale. -/
import Derived.Test.YtgcdomoecikooaaFleL
namespace Go.Proofs.Ytgcdomoecikooaa
open Go.RowKit
set_option linter.unusedVariables false
theorem refGive_succ {most : Int} {l : List Tide.Pod} {k : Nat} {p : Tide.Pod} (hp : l[k]? = some p) : Tide.refGive most l (k + 1) = if ((p.state == 3) && decide (p.load < most)) && Tide.beats Tide.ltLoad l (Tide.refGive most l k) p then some k else Tide.refGive most l k := Tide.pick_succ hp
theorem refPick_succ {l : List Tide.Pod} {k : Nat} {p : Tide.Pod} (hp : l[k]? = some p) : Tide.refPick l (k + 1) = if Tide.lives p && Tide.beats Tide.refLess l (Tide.refPick l k) p then some k else Tide.refPick l k := Tide.pick_succ hp
theorem giveAt_ref (l : List Tide.Pod) (most : Int) : Tide.refGive most l l.length = Tide.giveAt l most := Tide.refGive_is l.length
set_option maxRecDepth 100000 in
set_option maxHeartbeats 6400000 in
theorem creGive (S : Nat → Prop) (g : Nat) (v : Value) (l : List Tide.Pod) (last most : Int) (w : World) (h : FAt 71 S w g v l last most) (hm : most ≤ 1000) (hld : ∀ p ∈ l, 0 ≤ p.load) :
    Calls Try.prog 46 #[.pointer (some ⟨g, 0, none⟩)] w (CreOut 71 S w g (.tuple #[.int .i64 (Tide.giveNum l most), .int .i64 (Tide.giveErr l most)]) (Tide.giveLst l most) last most) := by
  obtain ⟨A, cap, rfl, _, _, _⟩ := h.row.slice
  have hs := h.small
  have HH := Lib.hid h; have HLd := Lib.hid hld
  clear h hld
  go_enter Try.func46, Try.ntmps46
  go_wp2_with fail
  go_loopw [4, 5] (fun n i wr => ∃ k : Nat, k ≤ l.length ∧ i = .int .i64 k ∧ n = .int .i64 (Tide.idxOf (Tide.refGive most l k)) ∧ Hid (Below w.heap.size w wr)) (fun _ i _ => l.length - (intOf i).toNat)
  case atStart => exact ⟨0, by omega, rfl, rfl, Lib.hid (Below.refl _ _)⟩
  case round =>
    obtain ⟨k, hk, rfl, rfl, HB⟩ := hrel
    have hc : wr.cell? ⟨g, 0, none⟩ = some (.slice A l.length cap) := (HH.out.below HB.out).head.here rfl
    have hmo : wr.cell? ⟨g, 2, none⟩ = some (.int .i64 most) := (HH.out.below HB.out).head.here rfl
    by_cases hlt : k < l.length
    · obtain ⟨p, hp⟩ := Tide.get_some l hlt
      obtain ⟨b, cap', e, hS, _, _, hbl, c0, c1, c2, _⟩ := (HH.out.below HB.out).pod hp
      cases e
      have i0 : (0 : Int) ≤ (k : Int) := by omega
      have i1 : (k : Int) < (l.length : Int) := by omega
      have HU := Lib.hid (refGive_succ (most := most) hp)
      have HG := Lib.hid (show ∀ i, Tide.refGive most l k = some i → i < k ∧ ∃ q, l[i]? = some q from fun i hi => by obtain ⟨h1, q, h2, _⟩ := Tide.pick_lt hi; exact ⟨h1, q, h2⟩)
      clear c0
      cases hf : (p.state == 3)
      · have HN := Lib.hid (show Tide.refGive most l (k + 1) = Tide.refGive most l k by rw [HU.out, hf]; rfl)
        clear hp HU
        go_wp2_with fail
        go_quiet (fail)
        go_wp2_with fail
        go_roundw
        case rel => exact ⟨k + 1, by omega, by go_num, by rw [HN.out], Lib.hid (fle_drewN HB.out _)⟩
        case measure => simp [intOf]; omega
      by_cases hlm : p.load < most
      · have hlm' : decide (p.load < most) = true := decide_eq_true hlm
        cases hj : Tide.refGive most l k with
        | none =>
          have HN := Lib.hid (show Tide.refGive most l (k + 1) = some k by rw [HU.out, hj, hf, hlm']; rfl)
          simp only [Tide.idxOf]
          clear hj hp HU
          go_wp2_with fail
          go_quiet (fail)
          go_wp2_with fail
          go_roundw
          case rel => exact ⟨k + 1, by omega, by go_num, by rw [HN.out] <;> rfl, Lib.hid (fle_drewN HB.out _)⟩
          case measure => simp [intOf]; omega
        | some j =>
          obtain ⟨hjk, q, hq, _⟩ := Tide.pick_lt hj
          obtain ⟨b', cap', e, _, _, _, _, d0, d1, d2, _⟩ := (HH.out.below HB.out).pod hq
          cases e
          simp only [Tide.idxOf]
          have j0 : (0 : Int) ≤ (j : Int) := by omega
          have j1 : (j : Int) < (l.length : Int) := by omega
          have jn : decide ((j : Int) < 0) = false := decide_eq_false (by omega)
          by_cases hl2 : p.load < q.load
          · have HN := Lib.hid (show Tide.refGive most l (k + 1) = some k by rw [HU.out, hj, hf, hlm']; simp only [Tide.beats, hq, Tide.ltLoad, decide_eq_true hl2]; rfl)
            clear hj hq hp HU d0 d1
            go_wp2_with fail
            go_quiet (fail)
            go_wp2_with fail
            go_roundw
            case rel => exact ⟨k + 1, by omega, by go_num, by rw [HN.out] <;> rfl, Lib.hid (fle_drewN HB.out _)⟩
            case measure => simp [intOf]; omega
          · have hl2' : decide (p.load < q.load) = false := decide_eq_false hl2
            have HN := Lib.hid (show Tide.refGive most l (k + 1) = some j by rw [HU.out, hj, hf, hlm']; simp only [Tide.beats, hq, Tide.ltLoad, hl2']; rfl)
            clear hj hq hp HU d0 d1
            go_wp2_with fail
            go_quiet (fail)
            go_wp2_with fail
            go_roundw
            case rel => exact ⟨k + 1, by omega, by go_num, by rw [HN.out] <;> rfl, Lib.hid (fle_drewN HB.out _)⟩
            case measure => simp [intOf]; omega
      · have hlm' : decide (p.load < most) = false := decide_eq_false hlm
        have HN := Lib.hid (show Tide.refGive most l (k + 1) = Tide.refGive most l k by rw [HU.out, hf, hlm']; rfl)
        clear hp HU
        go_wp2_with fail
        go_quiet (fail)
        go_wp2_with fail
        go_roundw
        case rel => exact ⟨k + 1, by omega, by go_num, by rw [HN.out], Lib.hid (fle_drewN HB.out _)⟩
        case measure => simp [intOf]; omega
    · have hke : k = l.length := by omega
      subst hke
      rw [giveAt_ref]
      cases hg : Tide.giveAt l most with
      | none =>
        simp only [Tide.idxOf]
        have HR := Lib.hid (show CreOut 71 S w g (.tuple #[.int .i64 (Tide.giveNum l most), .int .i64 (Tide.giveErr l most)]) (Tide.giveLst l most) last most (.returned (.tuple #[.int .i64 0, .int .i64 4])) wr from cre_same HB.out (HH.out.below HB.out) (Tide.Chg.refl _ _) (by unfold Tide.giveErr Tide.giveNum; rw [hg]) (by unfold Tide.giveLst; rw [hg]))
        clear hg hmo
        go_wp2_with fail
        go_ret2
        exact HR.out
      | some i =>
        simp only [Tide.idxOf]
        obtain ⟨p, hp, hst, hlm⟩ := Tide.giveAt_some hg
        obtain ⟨b, cap', e, hS, _, _, hbl, c0, c1, c2, fz⟩ := (HH.out.below HB.out).pod hp
        cases e
        have hil := Tide.get_lt hp
        have i0 : (0 : Int) ≤ (i : Int) := by omega
        have i1 : (i : Int) < (l.length : Int) := by omega
        have l0 := HLd.out p (List.mem_of_getElem? hp)
        have l1 : p.load + 1 ≤ 1000 := by omega
        have f2 := fz (i * 3 + 2)
        have p1 := (HH.out.below HB.out).put (by decide) (k := i) (j := 2) (r' := { p with load := p.load + 1 }) (u := .int .i64 (p.load + 1)) hp (by decide) rfl
        have HR := Lib.hid (show CreOut 71 S w g (.tuple #[.int .i64 (Tide.giveNum l most), .int .i64 (Tide.giveErr l most)]) (Tide.giveLst l most) last most (.returned (.tuple #[.int .i64 p.id, .int .i64 0])) _ from cre_same HB.out p1.1 p1.2 (by unfold Tide.giveErr Tide.giveNum; rw [hg]; simp only [hp]; rfl) (by unfold Tide.giveLst; rw [hg]; simp only [hp]))
        obtain ⟨b', cap', e, _, _, _, _, e0, e1, e2, _⟩ := p1.1.pod (List.getElem?_set_self hil)
        rw [List.length_set] at e
        cases e
        have hcP := p1.1.head.here (i := 0) rfl
        clear hg hp p1 hst hlm c0 c1 fz e1 e2 hmo
        go_wp2_with fail
        go_ret2
        exact HR.out
end Go.Proofs.Ytgcdomoecikooaa
