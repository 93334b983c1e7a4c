/- The contracts of package stable: fewer. -/
import Derived.Test.YtcnoapogeohmkaaStbD
import Derived.IntWalk
set_option linter.unusedVariables false
set_option linter.unusedSimpArgs false
namespace Go.Proofs.Ytcnoapogeohmkaa
open Go.RowKit
set_option linter.unusedVariables false
set_option maxRecDepth 100000 in
set_option maxHeartbeats 6400000 in
theorem stbFewer (S : Nat → Prop) (g : Nat) (s : Tide.Stb) (vw vm : Value) (now have0 want : Int) (w : World) (j : Nat) (h : StbAt 94 96 S w g s vw vm) (hs : s.ok j) (hj : j ≤ 100000) (n0 : 0 ≤ now) (n1 : now ≤ 1099511627776) (h0 : 0 ≤ have0) (h1 : have0 ≤ 50) (w0 : 0 ≤ want) (w1 : want ≤ 50) :
    Calls Try.prog 48 #[.pointer (some ⟨g, 0, none⟩), .int .i64 now, .int .i64 have0, .int .i64 want] w (LongPost w (Tide.fewerN s now have0 want)) := by
  obtain ⟨⟨u0, u1⟩, ⟨u2, u3⟩, ⟨u4, u5⟩, ⟨u6, u7⟩⟩ := hs.down
  have c0 : w.cell? ⟨g, 4, none⟩ = some (.int .i64 s.down.win) := h.head.here rfl
  have c3 : w.cell? ⟨g, 9, none⟩ = some vw := h.head.here rfl
  have HH := Lib.hid h; have HS := Lib.hid hs
  have e1 : IntKind.i64.wrap (now - s.down.win) = now - s.down.win := IntWalk.i64_in _ (by omega)
  clear h hs
  go_enter Try.func48, Try.ntmps48
  go_wp2_with fail
  go_region_held3 (fun w' => w'.cell? ⟨g, 4, none⟩ = some (.int .i64 s.down.win) ∧ w'.cell? ⟨g, 9, none⟩ = some vw) (go_keep) (first | (go_at_call 66; refine (stbBehind vw s.wanted _ S _ HH.out.wan.drew (by have := HS.out.wlen; omega)).mono ?_; rintro e w' ⟨v1, rfl, hl1, rfl⟩; obtain ⟨A1, cap1, rfl⟩ := list_slice hl1))
  all_goals
    have HL := Lib.hid hl1
    have hLen : (Tide.behindL s.wanted (now - s.down.win)).length ≤ 100000 := by have := Tide.behindL_length s.wanted (now - s.down.win); have := HS.out.wlen; omega
    have hMem := Lib.hid (fun m hm => (HS.out.wan m (Tide.behindL_mem (l := s.wanted) (at0 := now - s.down.win) m hm)).1)
    obtain ⟨L, hL⟩ : ∃ L, Tide.behindL s.wanted (now - s.down.win) = L := ⟨_, rfl⟩
    rw [hL] at HL hLen hMem ⊢
    have HLe := Lib.hid hL
    clear hl1 c0 c3 e1 hL
    go_wp2_with fail
    go_loopw [3, 27] (fun x3 i wr => ∃ k : Nat, k ≤ L.length ∧ i = .int .i64 k ∧ x3 = .int .i64 (Tide.maxAll (L.take k) want) ∧ Below w.heap.size w wr) (fun _ i _ => L.length - (intOf i).toNat)
    case atStart => exact ⟨0, by omega, rfl, rfl, (Below.refl _ _).drew⟩
    case round =>
      obtain ⟨k, hk, rfl, rfl, hb⟩ := hrel
      by_cases hlt : k < L.length
      · obtain ⟨m, hm⟩ := Tide.get_some L hlt
        obtain ⟨b, off, cap', e, d0, d1⟩ := mark_at (w := w.drew) HL.out (wr := wr) ⟨hb.os, hb.tape, hb.output, hb.size, hb.block⟩ hm
        cases e
        have i0 : (0 : Int) ≤ (k : Int) := by omega
        have i1 : (k : Int) < (L.length : Int) := by omega
        have HF := Lib.hid (Tide.fold_snoc (f := fun (a : Int) (m : Tide.Mark) => max a m.2) (x := want) hm)
        change Hid (Tide.maxAll (L.take (k + 1)) want = max (Tide.maxAll (L.take k) want) m.2) at HF
        generalize Tide.maxAll (L.take k) want = a at HF ⊢
        have HB := Lib.hid (hb.alloc hb.size (.cells #[.int .i64 m.1, .int .i64 m.2] 96))
        clear hb hm
        by_cases hc : a < m.2
        · go_wp2_with fail
          go_roundw
          case rel => exact ⟨k + 1, by omega, by go_num, by rw [HF.out, show max a m.2 = m.2 by omega], HB.out⟩
          case measure => simp [intOf]; omega
        · have hc' : m.2 ≤ a := by omega
          go_wp2_with fail
          go_roundw
          case rel => exact ⟨k + 1, by omega, by go_num, by rw [HF.out, show max a m.2 = a by omega], HB.out⟩
          case measure => simp [intOf]; omega
      · have hke : k = L.length := by omega
        subst hke
        rw [List.take_length]
        have hmb := Tide.maxAll_bd L want w0 w1 hMem.out
        have HM1 := Lib.hid (show Tide.fewerN s now have0 want = min (if s.down.limited then max (Tide.maxAll L want) (Tide.baseDown s now have0 - max s.down.pods (Tide.sharec (Tide.baseDown s now have0) (10 * s.down.pct))) else Tide.maxAll L want) have0 by unfold Tide.fewerN; rw [HLe.out])
        generalize Tide.maxAll L want = a at HM1 hmb ⊢
        obtain ⟨a0, a1⟩ := hmb
        have h2 := HH.out.below hb
        have d0 := h2.head.here (i := 4) rfl; have d1 := h2.head.here (i := 5) rfl; have d2 := h2.head.here (i := 6) rfl; have d3 := h2.head.here (i := 7) rfl
        have H2 := Lib.hid h2; have HB := Lib.hid hb
        clear h2 hb
        go_wp2_with fail
        refine (stbLimited s.down _).mono ?_
        rintro e w2 ⟨rfl, hb2⟩
        have hB2 := HB.out.trans (hb2.mono HB.out.size)
        have h3 := HH.out.below hB2
        clear d0 d1 d2 d3 hb2
        cases hlim : s.down.limited
        · have HF := Lib.hid (show LongPost w (Tide.fewerN s now have0 want) (.returned (.int .i64 (min a have0))) w2 from ⟨by rw [HM1.out, hlim]; rfl, hB2⟩)
          clear h3 hB2 hlim
          by_cases hc : have0 < a
          · rw [show min a have0 = have0 by omega] at HF
            go_wp2_with fail
            go_ret
            exact HF.out
          · rw [show min a have0 = a by omega] at HF
            have hc' : a ≤ have0 := by omega
            go_wp2_with fail
            go_ret
            exact HF.out
        · have d3 : w2.cell? ⟨g, 7, none⟩ = some (.int .i64 s.down.per) := h3.head.here rfl
          have d10 : w2.cell? ⟨g, 10, none⟩ = some vm := h3.head.here rfl
          have H3 := Lib.hid h3; have HB2 := Lib.hid hB2
          have e1 : IntKind.i64.wrap (now - s.down.per) = now - s.down.per := IntWalk.i64_in _ (by omega)
          have HLM := Lib.hid hlim
          clear h3 hB2 hlim
          go_wp2_with fail
          go_region_held3 (fun w' => w'.cell? ⟨g, 7, none⟩ = some (.int .i64 s.down.per) ∧ w'.cell? ⟨g, 10, none⟩ = some vm) (go_keep) (first | (go_at_call 66; refine (stbBehind vm s.moved _ S _ H3.out.mov.drew (by have := HS.out.mlen; omega)).mono ?_; rintro e w' ⟨v2, rfl, hl2, rfl⟩; obtain ⟨A2, cap2, rfl⟩ := list_slice hl2))
          all_goals
            have HL2 := Lib.hid hl2
            have hLen2 : (Tide.behindL s.moved (now - s.down.per)).length ≤ 100000 := by have := Tide.behindL_length s.moved (now - s.down.per); have := HS.out.mlen; omega
            have hMem2 := Lib.hid (fun m hm => (HS.out.mov m (Tide.behindL_mem (l := s.moved) (at0 := now - s.down.per) m hm)).1)
            obtain ⟨M, hM⟩ : ∃ M, Tide.behindL s.moved (now - s.down.per) = M := ⟨_, rfl⟩
            rw [hM] at HL2 hLen2 hMem2 ⊢
            have HMe := Lib.hid hM
            clear hl2 d3 d10 e1 hM
            go_wp2_with fail
            go_loopw [11, 55] (fun x3 i wr => ∃ k : Nat, k ≤ M.length ∧ i = .int .i64 k ∧ x3 = .int .i64 (Tide.sumDown (M.take k) have0) ∧ Below w2.heap.size w2 wr) (fun _ i _ => M.length - (intOf i).toNat)
            case atStart => exact ⟨0, by omega, rfl, rfl, (Below.refl _ _).drew⟩
            case round =>
              obtain ⟨k, hk, rfl, rfl, hb⟩ := hrel
              by_cases hlt : k < M.length
              · obtain ⟨m, hm⟩ := Tide.get_some M hlt
                obtain ⟨b, off, cap', e, d0, d1⟩ := mark_at (w := w2.drew) HL2.out (wr := wr) ⟨hb.os, hb.tape, hb.output, hb.size, hb.block⟩ hm
                cases e
                have i0 : (0 : Int) ≤ (k : Int) := by omega
                have i1 : (k : Int) < (M.length : Int) := by omega
                have hmb := hMem2.out m (List.mem_of_getElem? hm)
                have hsb := Tide.sumDown_bd (M.take k) have0 (fun m hm => hMem2.out m (List.mem_of_mem_take hm))
                have hkl : ((M.take k).length : Int) ≤ 100000 := by rw [List.length_take]; omega
                have HF := Lib.hid (Tide.fold_snoc (f := fun (a : Int) (m : Tide.Mark) => a + max (-m.2) 0) (x := have0) hm)
                change Hid (Tide.sumDown (M.take (k + 1)) have0 = Tide.sumDown (M.take k) have0 + max (-m.2) 0) at HF
                generalize Tide.sumDown (M.take k) have0 = t at HF hsb ⊢
                have t0 : 0 ≤ t := by omega
                have t1 : t ≤ 5000050 := by omega
                obtain ⟨m0, m1⟩ := hmb
                have HB := Lib.hid (hb.alloc hb.size (.cells #[.int .i64 m.1, .int .i64 m.2] 96))
                clear hb hm hsb hkl
                by_cases hc : -m.2 < 0
                · go_wp2_with fail
                  go_roundw
                  case rel => exact ⟨k + 1, by omega, by go_num, by rw [HF.out, show t + max (-m.2) 0 = t by omega], HB.out⟩
                  case measure => simp [intOf]; omega
                · have hc' : 0 ≤ -m.2 := by omega
                  go_wp2_with fail
                  go_roundw
                  case rel => exact ⟨k + 1, by omega, by go_num, by rw [HF.out, show t + max (-m.2) 0 = t + -m.2 by omega], HB.out⟩
                  case measure => simp [intOf]; omega
              · have hke : k = M.length := by omega
                subst hke
                rw [List.take_length]
                have hsb := Tide.sumDown_bd M have0 hMem2.out
                have HBu := Lib.hid (show Tide.baseDown s now have0 = Tide.sumDown M have0 by unfold Tide.baseDown; rw [HMe.out])
                generalize Tide.sumDown M have0 = B at HBu hsb ⊢
                have t0 : 0 ≤ B := by omega
                have t1 : B ≤ 5000050 := by omega
                have HB3 := Lib.hid (HB2.out.trans (hb.mono HB2.out.size))
                have h4 := H3.out.below hb
                have d1 : wr.cell? ⟨g, 5, none⟩ = some (.int .i64 s.down.pods) := h4.head.here rfl
                have d2 : wr.cell? ⟨g, 6, none⟩ = some (.int .i64 s.down.pct) := h4.head.here rfl
                obtain ⟨z0, z1⟩ := Tide.sharec_bd B (10 * s.down.pct)
                have HFn := Lib.hid (show ∀ x, x = min (max a (B - max s.down.pods (Tide.sharec B (10 * s.down.pct)))) have0 → ∀ w', wr = w' ∨ wr.drew = w' → LongPost w (Tide.fewerN s now have0 want) (.returned (.int .i64 x)) w' from fun x hx w' hw' => ⟨by rw [HM1.out, HLM.out, HBu.out, hx]; rfl, by rcases hw' with rfl | rfl; exact HB3.out; exact HB3.out.drew⟩)
                clear hb h4 hsb HM1 HBu
                have hmul : IntKind.i64.wrap (10 * s.down.pct) = 10 * s.down.pct := IntWalk.i64_in _ (by omega)
                by_cases hp : s.down.pods < Tide.sharec B (10 * s.down.pct)
                · have hw1 : IntKind.i64.wrap (B - Tide.sharec B (10 * s.down.pct)) = B - Tide.sharec B (10 * s.down.pct) := IntWalk.i64_in _ (by omega)
                  by_cases hq : a < B - Tide.sharec B (10 * s.down.pct)
                  · go_wp2_with fail
                    go_region_held3 (fun w' => w'.cell? ⟨g, 5, none⟩ = some (.int .i64 s.down.pods) ∧ w'.cell? ⟨g, 6, none⟩ = some (.int .i64 s.down.pct)) (go_keep) (first | (go_at_call 65; refine (numShare _ _ _).mono ?_; rintro e w' ⟨rfl, rfl⟩))
                    all_goals
                      clear hmul hw1
                      go_wp2_with fail
                      all_goals
                        go_ret
                        exact HFn.out _ (by omega) _ (.inr rfl)
                  · have hq' : B - Tide.sharec B (10 * s.down.pct) ≤ a := by omega
                    go_wp2_with fail
                    go_region_held3 (fun w' => w'.cell? ⟨g, 5, none⟩ = some (.int .i64 s.down.pods) ∧ w'.cell? ⟨g, 6, none⟩ = some (.int .i64 s.down.pct)) (go_keep) (first | (go_at_call 65; refine (numShare _ _ _).mono ?_; rintro e w' ⟨rfl, rfl⟩))
                    all_goals
                      clear hmul hw1
                      go_wp2_with fail
                      all_goals
                        go_ret
                        exact HFn.out _ (by omega) _ (.inr rfl)
                · have hp' : Tide.sharec B (10 * s.down.pct) ≤ s.down.pods := by omega
                  have hw1 : IntKind.i64.wrap (B - s.down.pods) = B - s.down.pods := IntWalk.i64_in _ (by omega)
                  by_cases hq : a < B - s.down.pods
                  · go_wp2_with fail
                    go_region_held3 (fun w' => w'.cell? ⟨g, 5, none⟩ = some (.int .i64 s.down.pods) ∧ w'.cell? ⟨g, 6, none⟩ = some (.int .i64 s.down.pct)) (go_keep) (first | (go_at_call 65; refine (numShare _ _ _).mono ?_; rintro e w' ⟨rfl, rfl⟩))
                    all_goals
                      clear hmul hw1
                      go_wp2_with fail
                      all_goals
                        go_ret
                        exact HFn.out _ (by omega) _ (.inr rfl)
                  · have hq' : B - s.down.pods ≤ a := by omega
                    go_wp2_with fail
                    go_region_held3 (fun w' => w'.cell? ⟨g, 5, none⟩ = some (.int .i64 s.down.pods) ∧ w'.cell? ⟨g, 6, none⟩ = some (.int .i64 s.down.pct)) (go_keep) (first | (go_at_call 65; refine (numShare _ _ _).mono ?_; rintro e w' ⟨rfl, rfl⟩))
                    all_goals
                      clear hmul hw1
                      go_wp2_with fail
                      all_goals
                        go_ret
                        exact HFn.out _ (by omega) _ (.inr rfl)
end Go.Proofs.Ytcnoapogeohmkaa
