/- The contracts of the reference's Hall: Late, Lost. -/
import Derived.Test.YtgcdomoecikooaaHalD
namespace Go.Proofs.Ytgcdomoecikooaa
open Go.RowKit
set_option linter.unusedVariables false
theorem end_inj {T : TypeId} {S : Nat → Prop} {w w' : World} {g : Nat} {v o : Value} {l : List Tide.Req} {p : Tide.Req → Bool} {fate : Int} (h : EndPost T S w g v l p fate (.returned o) w') :
    Tide.OwnRow (fun b => w.heap.size ≤ b) w' 3 1 o (Tide.idsF p l).length ((Tide.idsF p l).map (.int .i64)) ∧ BAt T S w' g v (l.map (Tide.setF p fate)) ∧ Tide.Chg S w w' := by
  obtain ⟨v', e, h1⟩ := h
  cases e
  exact h1
theorem late_end {T : TypeId} {S : Nat → Prop} {w w' : World} {g : Nat} {v v' : Value} {l : List Tide.Req} {now : Int} (x0 : 0 ≤ now) (x1 : now ≤ 1099511627776) (h : EndPost T S w g v l (Tide.isLate now) 4 (.returned v') w') : LatePost T S w g v l now (.returned (.tuple #[v', .int .i64 0])) w' := by
  obtain ⟨h1, h2, h3⟩ := end_inj h
  have hn : Tide.timeOk now = true := by unfold Tide.timeOk; simp; omega
  refine ⟨v', by unfold Tide.lateErr; rw [hn]; rfl, ?_, ?_, h3⟩
  · unfold Tide.lateIds; rw [hn]; exact h1
  · unfold Tide.lateLst; rw [hn]; exact h2
theorem lost_end {T : TypeId} {S : Nat → Prop} {w w' : World} {g : Nat} {v v' : Value} {l : List Tide.Req} {pod : Int} (h : EndPost T S w g v l (Tide.isLost pod) 5 (.returned v') w') : LostPost T S w g v l pod (.returned v') w' := by
  obtain ⟨h1, h2, h3⟩ := end_inj h
  exact ⟨v', rfl, h1, h2, h3⟩
/- the reference's Late -/
set_option maxRecDepth 100000 in
set_option maxHeartbeats 6400000 in
theorem halLate_in (S : Nat → Prop) (g : Nat) (v : Value) (l : List Tide.Req) (x : Int) (w : World) (h : BAt 47 S w g v l) (hn : Tide.Numbered l) (x0 : 0 ≤ x) (x1 : x ≤ 1099511627776) :
    Calls Try.prog 20 #[.pointer (some ⟨g, 0, none⟩), .int .i64 x] w (LatePost 47 S w g v l x) := by
  obtain ⟨A, cap0, rfl, _, _, _⟩ := h.row.slice
  have hc : w.cell? ⟨g, 0, none⟩ = some (.slice A l.length cap0) := h.head.here rfl
  have hs := h.small
  have HH := Lib.hid h; have HN := Lib.hid hn
  clear h hn
  obtain ⟨i0, hi, hz0, hz1, hz2⟩ := info_parts bufInt_info
  go_enter Try.func20, Try.ntmps20
  go_wp2_with fail
  refine (refIn_yes _ _ _ _ x0 x1).mono ?_; rintro e w1 ⟨rfl, rfl⟩; go_wp2_with fail
  go_loopw [6, 7] (fun o i wr => ∃ k : Nat, k ≤ l.length ∧ i = .int .i64 k ∧ EndRun 47 S w wr g (.slice A l.length cap0) l (Tide.isLate x) 4 k o) (fun _ i _ => l.length - (intOf i).toNat)
  case atStart => exact ⟨0, by omega, rfl, EndRun.start HH.out⟩
  case round =>
    clear hc
    obtain ⟨k, hk, rfl, hr0⟩ := hrel
    obtain ⟨A7, c7, rfl, _, _, _⟩ := EndMid.out hr0 |>.slice
    have HR0 := Lib.hid hr0
    have hc : wr.cell? ⟨g, 0, none⟩ = some (.slice A l.length cap0) := HR0.out.buf.head.here rfl
    clear hr0
    by_cases hlt : k < l.length
    · obtain ⟨r, hr⟩ := Tide.get_some l hlt
      obtain ⟨b, cap', e, hS, _, _, hbl, c0, c1, c2, c3, c4, fz⟩ := HR0.out.buf.req ((Tide.upTo_get _ _ _).trans hr)
      rw [Tide.upTo_length] at e
      cases e
      have i0' : (0 : Int) ≤ (k : Int) := by omega
      have i1 : (k : Int) < (l.length : Int) := by omega
      have hid := Lib.hid (HN.out k r hr).1
      have HR := Lib.hid hr
      have HS' := Lib.hid hS
      have f3 := fz (k * 5 + 3)
      clear hr c0 c1 hbl fz
      cases hf : (r.fate == 1)
      · have HX := Lib.hid (HR0.out.skip HR.out (show Tide.isLate x r = false by unfold Tide.isLate; rw [hf]; rfl))
        clear f3 c2 c4
        go_wp2_with fail
        go_roundw
        case rel => exact ⟨k + 1, by omega, by go_num, HX.out⟩
        case measure => simp [intOf]; omega
      · cases hp : (decide (r.till ≤ x))
        · have HX := Lib.hid (HR0.out.skip HR.out (show Tide.isLate x r = false by unfold Tide.isLate; rw [hf, hp]; rfl))
          clear f3
          have hp': x < r.till := by have := of_decide_eq_false hp; omega
          go_wp2_with fail
          go_roundw
          case rel => exact ⟨k + 1, by omega, by go_num, HX.out⟩
          case measure => simp [intOf]; omega
        · have HP := Lib.hid (show Tide.isLate x r = true by unfold Tide.isLate; rw [hf, hp]; rfl)
          have HQ := Lib.hid (HR0.out.put (fate := 4) (by decide) HR.out HP.out)
          have hp': r.till ≤ x := of_decide_eq_true hp
          go_upto_region 9 with fail
          clear hf hp
          generalize wr.setCell ⟨b, k * 5 + 3, none⟩ (.int .i64 4) = w2 at HQ ⊢
          clear hc c3 f3 c2 c4
          have hle := idsF_le (Tide.isLate x) l (k + 1)
          have hle0 := idsF_le (Tide.isLate x) l k
          have hm3 := Lib.hid (show (Tide.idsF (Tide.isLate x) (l.take k)).length + 1 ≤ maxLen by simp only [maxLen]; omega)
          have hm4 := Lib.hid (show ((Tide.idsF (Tide.isLate x) (l.take k)).length + 1) * 8 ≤ 140737488355328 by omega)
          clear hle hle0
          go_wp2_with (at_builtin; refine wpList_append_lies _ (by rfl) (.tmp 48) (.tmp 51) 32 (by rfl) 0 3 i0 (.int .i64 0) 1 8 Try.underlying32 hi hz0 hz1 hz2 rfl (by decide) (.slice A7 (Tide.idsF (Tide.isLate x) (l.take k)).length c7) _ _ rfl (HQ.out.out.alloc _).owns ⟨w2.heap.size, 0, none⟩ 1 1 [.int .i64 ((k : Int) + 1)] rfl rfl (buf_cells_in rfl) (by simp [Value.oneCell']) (by decide) hm3.out hm4.out (Nat.zero_le _) _ rfl ?_)
          intro b2 cap2 w3 hown hg ho hlt2
          rw [← hid.out] at hown
          have HX := Lib.hid (HQ.out.app HR.out HP.out hown hg ho hlt2)
          clear hown hg ho hlt2
          go_wp2_with fail
          go_roundw
          case rel => exact ⟨k + 1, by omega, by go_num, HX.out⟩
          case measure => simp [intOf]; omega
    · have hke : k = l.length := by omega
      subst hke
      have HE := Lib.hid HR0.out.done
      go_wp2_with fail
      go_ret2; exact late_end x0 x1 HE.out
/- the reference's Lost -/
set_option maxRecDepth 100000 in
set_option maxHeartbeats 6400000 in
theorem halLost (S : Nat → Prop) (g : Nat) (v : Value) (l : List Tide.Req) (x : Int) (w : World) (h : BAt 47 S w g v l) (hn : Tide.Numbered l) :
    Calls Try.prog 26 #[.pointer (some ⟨g, 0, none⟩), .int .i64 x] w (LostPost 47 S w g v l x) := by
  obtain ⟨A, cap0, rfl, _, _, _⟩ := h.row.slice
  have hc : w.cell? ⟨g, 0, none⟩ = some (.slice A l.length cap0) := h.head.here rfl
  have hs := h.small
  have HH := Lib.hid h; have HN := Lib.hid hn
  clear h hn
  obtain ⟨i0, hi, hz0, hz1, hz2⟩ := info_parts bufInt_info
  go_enter Try.func26, Try.ntmps26
  go_wp2_with fail
  skip
  go_loopw [5, 6] (fun o i wr => ∃ k : Nat, k ≤ l.length ∧ i = .int .i64 k ∧ EndRun 47 S w wr g (.slice A l.length cap0) l (Tide.isLost x) 5 k o) (fun _ i _ => l.length - (intOf i).toNat)
  case atStart => exact ⟨0, by omega, rfl, EndRun.start HH.out⟩
  case round =>
    clear hc
    obtain ⟨k, hk, rfl, hr0⟩ := hrel
    obtain ⟨A7, c7, rfl, _, _, _⟩ := EndMid.out hr0 |>.slice
    have HR0 := Lib.hid hr0
    have hc : wr.cell? ⟨g, 0, none⟩ = some (.slice A l.length cap0) := HR0.out.buf.head.here rfl
    clear hr0
    by_cases hlt : k < l.length
    · obtain ⟨r, hr⟩ := Tide.get_some l hlt
      obtain ⟨b, cap', e, hS, _, _, hbl, c0, c1, c2, c3, c4, fz⟩ := HR0.out.buf.req ((Tide.upTo_get _ _ _).trans hr)
      rw [Tide.upTo_length] at e
      cases e
      have i0' : (0 : Int) ≤ (k : Int) := by omega
      have i1 : (k : Int) < (l.length : Int) := by omega
      have hid := Lib.hid (HN.out k r hr).1
      have HR := Lib.hid hr
      have HS' := Lib.hid hS
      have f3 := fz (k * 5 + 3)
      clear hr c0 c1 hbl fz
      cases hf : (r.fate == 2)
      · have HX := Lib.hid (HR0.out.skip HR.out (show Tide.isLost x r = false by unfold Tide.isLost; rw [hf]; rfl))
        clear f3 c2 c4
        go_wp2_with fail
        go_roundw
        case rel => exact ⟨k + 1, by omega, by go_num, HX.out⟩
        case measure => simp [intOf]; omega
      · cases hp : (r.pod == x)
        · have HX := Lib.hid (HR0.out.skip HR.out (show Tide.isLost x r = false by unfold Tide.isLost; rw [hf, hp]; rfl))
          clear f3
          skip
          go_wp2_with fail
          go_roundw
          case rel => exact ⟨k + 1, by omega, by go_num, HX.out⟩
          case measure => simp [intOf]; omega
        · have HP := Lib.hid (show Tide.isLost x r = true by unfold Tide.isLost; rw [hf, hp]; rfl)
          have HQ := Lib.hid (HR0.out.put (fate := 5) (by decide) HR.out HP.out)
          skip
          go_upto_region 7 with fail
          clear hf hp
          generalize wr.setCell ⟨b, k * 5 + 3, none⟩ (.int .i64 5) = w2 at HQ ⊢
          clear hc c3 f3 c2 c4
          have hle := idsF_le (Tide.isLost x) l (k + 1)
          have hle0 := idsF_le (Tide.isLost x) l k
          have hm3 := Lib.hid (show (Tide.idsF (Tide.isLost x) (l.take k)).length + 1 ≤ maxLen by simp only [maxLen]; omega)
          have hm4 := Lib.hid (show ((Tide.idsF (Tide.isLost x) (l.take k)).length + 1) * 8 ≤ 140737488355328 by omega)
          clear hle hle0
          go_wp2_with (at_builtin; refine wpList_append_lies _ (by rfl) (.tmp 44) (.tmp 47) 32 (by rfl) 0 3 i0 (.int .i64 0) 1 8 Try.underlying32 hi hz0 hz1 hz2 rfl (by decide) (.slice A7 (Tide.idsF (Tide.isLost x) (l.take k)).length c7) _ _ rfl (HQ.out.out.alloc _).owns ⟨w2.heap.size, 0, none⟩ 1 1 [.int .i64 ((k : Int) + 1)] rfl rfl (buf_cells_in rfl) (by simp [Value.oneCell']) (by decide) hm3.out hm4.out (Nat.zero_le _) _ rfl ?_)
          intro b2 cap2 w3 hown hg ho hlt2
          rw [← hid.out] at hown
          have HX := Lib.hid (HQ.out.app HR.out HP.out hown hg ho hlt2)
          clear hown hg ho hlt2
          go_wp2_with fail
          go_roundw
          case rel => exact ⟨k + 1, by omega, by go_num, HX.out⟩
          case measure => simp [intOf]; omega
    · have hke : k = l.length := by omega
      subst hke
      have HE := Lib.hid HR0.out.done
      go_wp2_with fail
      go_ret; exact lost_end HE.out
set_option maxRecDepth 100000 in
set_option maxHeartbeats 1600000 in
theorem halLate (S : Nat → Prop) (g : Nat) (v : Value) (l : List Tide.Req) (x : Int) (w : World) (h : BAt 47 S w g v l) (hn : Tide.Numbered l) :
    Calls Try.prog 20 #[.pointer (some ⟨g, 0, none⟩), .int .i64 x] w (LatePost 47 S w g v l x) := by
  by_cases q : 0 ≤ x ∧ x ≤ 1099511627776
  · exact halLate_in S g v l x w h hn q.1 q.2
  · have HF := Lib.hid (late_no h (Below.refl _ _) (show Tide.timeOk x = false by unfold Tide.timeOk; simp; omega))
    have Q := Lib.hid (show x < 0 ∨ 1099511627776 < x by omega)
    clear h hn q
    go_enter Try.func20, Try.ntmps20
    go_wp2_with fail
    refine (refIn_no _ _ _ _ Q.out).mono ?_
    rintro e w1 ⟨rfl, rfl⟩
    go_wp2_with fail
    go_ret2
    exact HF.out
end Go.Proofs.Ytgcdomoecikooaa
