/- The contracts of package stable: more. -/
import Derived.Test.YtcnoapogeohmkaaStbC
import Derived.IntWalk
set_option linter.unusedVariables false
set_option linter.unusedSimpArgs false
namespace Go.Proofs.Ytcnoapogeohmkaa
open Go.RowKit
set_option linter.unusedVariables false
def LongPost (w : World) (n : Int) (e : Ending) (w' : World) : Prop := e = .returned (.int .i64 n) ∧ Below w.heap.size w w'
set_option maxRecDepth 100000 in
set_option maxHeartbeats 6400000 in
theorem stbMore (S : Nat → Prop) (g : Nat) (s : Tide.Stb) (vw vm : Value) (now have0 want : Int) (w : World) (j : Nat) (h : StbAt 94 96 S w g s vw vm) (hs : s.ok j) (hj : j ≤ 100000) (n0 : 0 ≤ now) (n1 : now ≤ 1099511627776) (h0 : 0 ≤ have0) (h1 : have0 ≤ 50) (w0 : 0 ≤ want) (w1 : want ≤ 50) :
    Calls Try.prog 47 #[.pointer (some ⟨g, 0, none⟩), .int .i64 now, .int .i64 have0, .int .i64 want] w (LongPost w (Tide.moreN s now have0 want)) := by
  obtain ⟨⟨u0, u1⟩, ⟨u2, u3⟩, ⟨u4, u5⟩, ⟨u6, u7⟩⟩ := hs.up
  have c0 : w.cell? ⟨g, 0, none⟩ = some (.int .i64 s.up.win) := h.head.here rfl
  have c3 : w.cell? ⟨g, 9, none⟩ = some vw := h.head.here rfl
  have HH := Lib.hid h; have HS := Lib.hid hs
  have e1 : IntKind.i64.wrap (now - s.up.win) = now - s.up.win := IntWalk.i64_in _ (by omega)
  clear h hs
  go_enter Try.func47, Try.ntmps47
  go_wp2_with fail
  go_region_held3 (fun w' => w'.cell? ⟨g, 0, none⟩ = some (.int .i64 s.up.win) ∧ w'.cell? ⟨g, 9, none⟩ = some vw) (go_keep) (first | (go_at_call 66; refine (stbBehind vw s.wanted _ S _ HH.out.wan.drew (by have := HS.out.wlen; omega)).mono ?_; rintro e w' ⟨v1, rfl, hl1, rfl⟩; obtain ⟨A1, cap1, rfl⟩ := list_slice hl1))
  all_goals
    have HL := Lib.hid hl1
    have hLen : (Tide.behindL s.wanted (now - s.up.win)).length ≤ 100000 := by have := Tide.behindL_length s.wanted (now - s.up.win); have := HS.out.wlen; omega
    have hMem := Lib.hid (fun m hm => (HS.out.wan m (Tide.behindL_mem (l := s.wanted) (at0 := now - s.up.win) m hm)).1)
    obtain ⟨L, hL⟩ : ∃ L, Tide.behindL s.wanted (now - s.up.win) = L := ⟨_, rfl⟩
    rw [hL] at HL hLen hMem ⊢
    have HLe := Lib.hid hL
    clear hl1 c0 c3 e1 hL
    go_wp2_with fail
    go_loopw [3, 30] (fun x3 i wr => ∃ k : Nat, k ≤ L.length ∧ i = .int .i64 k ∧ x3 = .int .i64 (Tide.minAll (L.take k) want) ∧ Below w.heap.size w wr) (fun _ i _ => L.length - (intOf i).toNat)
    case atStart => exact ⟨0, by omega, rfl, rfl, (Below.refl _ _).drew⟩
    case round =>
      obtain ⟨k, hk, rfl, rfl, hb⟩ := hrel
      by_cases hlt : k < L.length
      · obtain ⟨m, hm⟩ := Tide.get_some L hlt
        obtain ⟨b, off, cap', e, d0, d1⟩ := mark_at (w := w.drew) HL.out (wr := wr) ⟨hb.os, hb.tape, hb.output, hb.size, hb.block⟩ hm
        cases e
        have i0 : (0 : Int) ≤ (k : Int) := by omega
        have i1 : (k : Int) < (L.length : Int) := by omega
        have HF := Lib.hid (Tide.fold_snoc (f := fun (a : Int) (m : Tide.Mark) => min a m.2) (x := want) hm)
        change Hid (Tide.minAll (L.take (k + 1)) want = min (Tide.minAll (L.take k) want) m.2) at HF
        generalize Tide.minAll (L.take k) want = a at HF ⊢
        have HB := Lib.hid (hb.alloc hb.size (.cells #[.int .i64 m.1, .int .i64 m.2] 96))
        clear hb hm
        by_cases hc : m.2 < a
        · go_wp2_with fail
          go_roundw
          case rel => exact ⟨k + 1, by omega, by go_num, by rw [HF.out, show min a m.2 = m.2 by omega], HB.out⟩
          case measure => simp [intOf]; omega
        · have hc' : a ≤ m.2 := by omega
          go_wp2_with fail
          go_roundw
          case rel => exact ⟨k + 1, by omega, by go_num, by rw [HF.out, show min a m.2 = a by omega], HB.out⟩
          case measure => simp [intOf]; omega
      · have hke : k = L.length := by omega
        subst hke
        rw [List.take_length]
        have hmb := Tide.minAll_bd L want w0 w1 hMem.out
        have HM1 := Lib.hid (show Tide.moreN s now have0 want = max (if s.up.limited then min (Tide.minAll L want) (Tide.baseUp s now have0 + max s.up.pods (Tide.ceilc (Tide.baseUp s now have0 * s.up.pct) 100)) else Tide.minAll L want) have0 by unfold Tide.moreN; rw [HLe.out])
        generalize Tide.minAll L want = a at HM1 hmb ⊢
        obtain ⟨a0, a1⟩ := hmb
        have h2 := HH.out.below hb
        have d0 := h2.head.here (i := 0) rfl; have d1 := h2.head.here (i := 1) rfl; have d2 := h2.head.here (i := 2) rfl; have d3 := h2.head.here (i := 3) rfl
        have H2 := Lib.hid h2; have HB := Lib.hid hb
        clear h2 hb
        go_wp2_with fail
        refine (stbLimited s.up _).mono ?_
        rintro e w2 ⟨rfl, hb2⟩
        have hB2 := HB.out.trans (hb2.mono HB.out.size)
        have h3 := HH.out.below hB2
        clear d0 d1 d2 d3 hb2
        cases hlim : s.up.limited
        · have HF := Lib.hid (show LongPost w (Tide.moreN s now have0 want) (.returned (.int .i64 (max a have0))) w2 from ⟨by rw [HM1.out, hlim]; rfl, hB2⟩)
          clear h3 hB2 hlim
          by_cases hc : a < have0
          · rw [show max a have0 = have0 by omega] at HF
            go_wp2_with fail
            go_ret
            exact HF.out
          · rw [show max a have0 = a by omega] at HF
            have hc' : have0 ≤ a := by omega
            go_wp2_with fail
            go_ret
            exact HF.out
        · have d3 : w2.cell? ⟨g, 3, none⟩ = some (.int .i64 s.up.per) := h3.head.here rfl
          have d10 : w2.cell? ⟨g, 10, none⟩ = some vm := h3.head.here rfl
          have H3 := Lib.hid h3; have HB2 := Lib.hid hB2
          have e1 : IntKind.i64.wrap (now - s.up.per) = now - s.up.per := IntWalk.i64_in _ (by omega)
          have HLM := Lib.hid hlim
          clear h3 hB2 hlim
          go_wp2_with fail
          go_region_held3 (fun w' => w'.cell? ⟨g, 3, none⟩ = some (.int .i64 s.up.per) ∧ w'.cell? ⟨g, 10, none⟩ = some vm) (go_keep) (first | (go_at_call 66; refine (stbBehind vm s.moved _ S _ H3.out.mov.drew (by have := HS.out.mlen; omega)).mono ?_; rintro e w' ⟨v2, rfl, hl2, rfl⟩; obtain ⟨A2, cap2, rfl⟩ := list_slice hl2))
          all_goals
            have HL2 := Lib.hid hl2
            have hLen2 : (Tide.behindL s.moved (now - s.up.per)).length ≤ 100000 := by have := Tide.behindL_length s.moved (now - s.up.per); have := HS.out.mlen; omega
            have hMem2 := Lib.hid (fun m hm => (HS.out.mov m (Tide.behindL_mem (l := s.moved) (at0 := now - s.up.per) m hm)).1)
            obtain ⟨M, hM⟩ : ∃ M, Tide.behindL s.moved (now - s.up.per) = M := ⟨_, rfl⟩
            rw [hM] at HL2 hLen2 hMem2 ⊢
            have HMe := Lib.hid hM
            clear hl2 d3 d10 e1 hM
            go_wp2_with fail
            go_loopw [11, 57] (fun x3 i wr => ∃ k : Nat, k ≤ M.length ∧ i = .int .i64 k ∧ x3 = .int .i64 (Tide.sumUp (M.take k) 0) ∧ Below w2.heap.size w2 wr) (fun _ i _ => M.length - (intOf i).toNat)
            case atStart => exact ⟨0, by omega, rfl, rfl, (Below.refl _ _).drew⟩
            case round =>
              obtain ⟨k, hk, rfl, rfl, hb⟩ := hrel
              by_cases hlt : k < M.length
              · obtain ⟨m, hm⟩ := Tide.get_some M hlt
                obtain ⟨b, off, cap', e, d0, d1⟩ := mark_at (w := w2.drew) HL2.out (wr := wr) ⟨hb.os, hb.tape, hb.output, hb.size, hb.block⟩ hm
                cases e
                have i0 : (0 : Int) ≤ (k : Int) := by omega
                have i1 : (k : Int) < (M.length : Int) := by omega
                have hmb := hMem2.out m (List.mem_of_getElem? hm)
                have hsb := Tide.sumUp_bd (M.take k) 0 (fun m hm => hMem2.out m (List.mem_of_mem_take hm))
                have hkl : ((M.take k).length : Int) ≤ 100000 := by rw [List.length_take]; omega
                have HF := Lib.hid (Tide.fold_snoc (f := fun (a : Int) (m : Tide.Mark) => a + max m.2 0) (x := 0) hm)
                change Hid (Tide.sumUp (M.take (k + 1)) 0 = Tide.sumUp (M.take k) 0 + max m.2 0) at HF
                generalize Tide.sumUp (M.take k) 0 = t at HF hsb ⊢
                have t0 : 0 ≤ t := hsb.1
                have t1 : t ≤ 5000000 := by omega
                obtain ⟨m0, m1⟩ := hmb
                have HB := Lib.hid (hb.alloc hb.size (.cells #[.int .i64 m.1, .int .i64 m.2] 96))
                clear hb hm hsb hkl
                by_cases hc : m.2 < 0
                · go_wp2_with fail
                  go_roundw
                  case rel => exact ⟨k + 1, by omega, by go_num, by rw [HF.out, show t + max m.2 0 = t by omega], HB.out⟩
                  case measure => simp [intOf]; omega
                · have hc' : 0 ≤ m.2 := by omega
                  go_wp2_with fail
                  go_roundw
                  case rel => exact ⟨k + 1, by omega, by go_num, by rw [HF.out, show t + max m.2 0 = t + m.2 by omega], HB.out⟩
                  case measure => simp [intOf]; omega
              · have hke : k = M.length := by omega
                subst hke
                rw [List.take_length]
                have hsb := Tide.sumUp_bd M 0 hMem2.out
                have HBu := Lib.hid (show Tide.baseUp s now have0 = max (have0 - Tide.sumUp M 0) 0 by unfold Tide.baseUp; rw [HMe.out])
                generalize Tide.sumUp M 0 = t at HBu hsb ⊢
                have t0 : 0 ≤ t := hsb.1
                have t1 : t ≤ 5000000 := by omega
                have HB3 := Lib.hid (HB2.out.trans (hb.mono HB2.out.size))
                have h4 := H3.out.below hb
                have d1 : wr.cell? ⟨g, 1, none⟩ = some (.int .i64 s.up.pods) := h4.head.here rfl
                have d2 : wr.cell? ⟨g, 2, none⟩ = some (.int .i64 s.up.pct) := h4.head.here rfl
                clear hb h4 hsb
                go_upto_region 13 with fail
                go_cut [14] (fun s14 wx => s14 = .int .i64 (max (have0 - t) 0) ∧ wx = wr)
                case first =>
                  by_cases hc : have0 - t < 0
                  · go_wp2_with fail
                    go_meet
                    exact ⟨by rw [show max (have0 - t) 0 = 0 by omega], rfl⟩
                  · have hc' : 0 ≤ have0 - t := by omega
                    go_wp2_with fail
                    go_meet
                    exact ⟨by rw [show max (have0 - t) 0 = have0 - t by omega], rfl⟩
                case rest =>
                  obtain ⟨rfl, rfl⟩ := hcut
                  have B0 : 0 ≤ max (have0 - t) 0 := by omega
                  have B1 : max (have0 - t) 0 ≤ 50 := by omega
                  generalize max (have0 - t) 0 = B at HBu B0 B1 ⊢
                  obtain ⟨q0, q1⟩ := Tide.mul_bd B0 B1 u4 u5
                  have q2 : B * s.up.pct ≤ 5000000 := by omega
                  clear q1
                  go_wp2_with fail
                  refine (numCeil_yes _ _ _ (by omega)).mono ?_
                  rintro e w' ⟨rfl, rfl⟩
                  obtain ⟨z0, z1⟩ := Tide.ceilc_bd (B * s.up.pct)
                  have HFn := Lib.hid (show ∀ x, x = max (min a (B + max s.up.pods (Tide.ceilc (B * s.up.pct) 100))) have0 → LongPost w (Tide.moreN s now have0 want) (.returned (.int .i64 x)) _ from fun x hx => ⟨by rw [HM1.out, HLM.out, HBu.out, hx]; rfl, HB3.out⟩)
                  generalize Tide.ceilc (B * s.up.pct) 100 = C at HFn z0 z1 ⊢
                  clear HM1 HBu q0 q2
                  go_wp2_with fail
                  all_goals
                    go_ret
                    exact HFn.out _ (by omega)
end Go.Proofs.Ytcnoapogeohmkaa
