/- The contracts of Scale, turn, Crash, Give, Done, New. -/
import Derived.Test.YtgcdomoecikooaaFleE
import Derived.Test.YtgcdomoecikooaaOpenRows
namespace Go.Proofs.Ytgcdomoecikooaa
open Go.RowKit
set_option linter.unusedVariables false
theorem fle_alloc_size (w : World) (o : Obj) : (w.alloc o).drew.heap.size = w.drew.heap.size + 1 := by
  show (w.alloc o).heap.size = w.heap.size + 1
  simp
section
variable {T : TypeId} {S : Nat → Prop} {w w1 : World} {g b cap : Nat} {l : List Tide.Pod} {v : Value} {last most : Int}
theorem FAt.tick (h : FAt T S w g v l last most) (hT : T ≠ 64) (x : Int) : FAt T S (w.setCell ⟨g, 1, none⟩ (.int .i64 x)) g v l x most ∧ Tide.Chg S w (w.setCell ⟨g, 1, none⟩ (.int .i64 x)) :=
  ⟨⟨h.head.put 1 _, h.row.aside (p := ⟨g, 1, none⟩) (h.apart hT) _, h.own, h.small, fun c hc => by rw [Tide.size_put]; exact h.lim c hc⟩, (Tide.Chg.refl S w).put (p := ⟨g, 1, none⟩) (.inl h.own) _⟩
/-- a pod is appended -/
theorem FAt.app {r : Tide.Pod} {o : Obj} (h : FAt T S w g v l last most) (hT : T ≠ 64) (hl : l.length < 10000000)
    (h1 : w1.ownsRow 0 64 3 (.slice (some ⟨b, 0, none⟩) (l.length + 1) cap) (l.length + 1) (l.flatMap Tide.Pod.enc ++ r.enc)) (hg : (w.alloc o).grownBy w1 v.ownBlock) (ho : v.ownBlock = some b ∨ b = w.heap.size + 1) (hlt : b < w1.heap.size) :
    (w1.cell? ⟨g, 0, none⟩ = some v ∧ w1.frozen? ⟨g, 0, none⟩ = false) ∧
    FAt T (Tide.Plus S w (w1.setCell ⟨g, 0, none⟩ (.slice (some ⟨b, 0, none⟩) (l.length + 1) cap))) (w1.setCell ⟨g, 0, none⟩ (.slice (some ⟨b, 0, none⟩) (l.length + 1) cap)) g (.slice (some ⟨b, 0, none⟩) (l.length + 1) cap) (l ++ [r]) last most ∧
    Tide.Chg S w (w1.setCell ⟨g, 0, none⟩ (.slice (some ⟨b, 0, none⟩) (l.length + 1) cap)) := by
  have z : (w.alloc o).heap.size = w.heap.size + 1 := by simp
  obtain ⟨r1, r2⟩ := (h.row.alloc o).app h1 hg (ho.imp id (fun e => by rw [e, z])) hlt
  have hA := (h.head.alloc o).grown hg (fun e => h.row.apartAt h.head (Ne.symm hT) g e rfl)
  have z2 := r2.size
  have e1 : (l ++ [r]).length = l.length + 1 := by simp
  have e2 : (l ++ [r]).flatMap Tide.Pod.enc = l.flatMap Tide.Pod.enc ++ r.enc := by simp
  refine ⟨⟨hA.here rfl, hA.soft 0⟩, ⟨hA.put 0 _, ?_, .inl h.own, by rw [e1]; omega, fun c hb => ?_⟩, ((Tide.Chg.refl S w).alloc o).trans (r2.put (.inl h.own) _)⟩
  · rw [e1, e2]
    refine (r1.mono fun c hc hb => ?_).aside (p := ⟨g, 0, none⟩) (r1.apartAt hA (Ne.symm hT)) _
    rcases hb with hb | hb
    · exact .inl hb
    · exact .inr ⟨by omega, by rw [Tide.size_put]; exact hc⟩
  · rcases hb with hb | hb
    · have := h.lim c hb
      rw [Tide.size_put]; omega
    · exact hb.2
/-- two steps, each with new blocks of its own -/
theorem FAt.plus {w0 w2 : World} {v' : Value} {l' : List Tide.Pod} {last' : Int} (hc : Tide.Chg S w0 w) (h : FAt T (Tide.Plus (Tide.Plus S w0 w) w w2) w2 g v' l' last' most) (hc2 : Tide.Chg (Tide.Plus S w0 w) w w2) : FAt T (Tide.Plus S w0 w2) w2 g v' l' last' most ∧ Tide.Chg S w0 w2 := by
  have z1 := hc.size
  have z2 := hc2.size
  refine ⟨h.mono (fun c hlt hb => ?_) (fun c hb => ?_), hc.plus hc2⟩
  · rcases hb with hb | hb
    · exact hb.up (by omega)
    · exact .inr ⟨by omega, hlt⟩
  · rcases hb with hb | hb
    · exact h.lim c (.inl (.inl hb))
    · exact hb.2
end
theorem FAt.wide {T : TypeId} {S : Nat → Prop} {w0 w w' : World} {g : Nat} {v : Value} {l : List Tide.Pod} {last most : Int} (h : FAt T (Tide.Plus S w0 w) w' g v l last most) (hz : w.heap.size ≤ w'.heap.size) (hz0 : w0.heap.size ≤ w'.heap.size) : FAt T (Tide.Plus S w0 w') w' g v l last most :=
  h.mono (fun c _ hb => hb.up hz) (fun c hb => by
    rcases hb with hb | hb
    · exact h.lim c (.inl hb)
    · exact hb.2)
def ScalePost (T : TypeId) (S : Nat → Prop) (w : World) (g : Nat) (l : List Tide.Pod) (last most n : Int) (e : Ending) (w' : World) : Prop :=
  e = .returned (.int .i64 (Tide.scaleErr n)) ∧ (∃ v, FAt T (Tide.Plus S w w') w' g v (Tide.scaleLst l last n) (Tide.scaleLast l last n) most) ∧ Tide.Chg S w w'
theorem scale_no {T : TypeId} {S : Nat → Prop} {w : World} {g : Nat} {v : Value} {l : List Tide.Pod} {last most n : Int} (h : FAt T S w g v l last most) (hn : n < 0 ∨ 50 < n) : ScalePost T S w g l last most n (.returned (.int .i64 1)) w := by
  refine ⟨by unfold Tide.scaleErr; rw [if_pos hn], ⟨v, ?_⟩, Tide.Chg.refl _ _⟩
  unfold Tide.scaleLst Tide.scaleLast Tide.scaleUp Tide.scaleDown
  rw [if_pos hn, if_pos hn]
  simpa [Tide.newPods, Tide.fewerN] using h.up
set_option maxRecDepth 100000 in
set_option maxHeartbeats 12800000 in
theorem fleScale (S : Nat → Prop) (g : Nat) (v : Value) (l : List Tide.Pod) (last most n : Int) (w : World) (h : FAt 88 S w g v l last most) (hcr : Tide.Crewed l last most) (hm : 0 ≤ most) (hsm : l.length ≤ 9000000) (hla : last ≤ 1000000000000) :
    Calls Try.prog 30 #[.pointer (some ⟨g, 0, none⟩), .int .i64 n] w (ScalePost 88 S w g l last most n) := by
  have HH := Lib.hid h
  clear h
  by_cases h1 : n < 0
  · have HF := Lib.hid (scale_no HH.out (.inl h1))
    go_enter Try.func30, Try.ntmps30
    go_wp2_with fail
    go_ret
    exact HF.out
  by_cases h2 : 50 < n
  · have HF := Lib.hid (scale_no HH.out (.inr h2))
    have h1' : 0 ≤ n := by omega
    clear h1
    go_enter Try.func30, Try.ntmps30
    go_wp2_with fail
    go_ret
    exact HF.out
  have h1' : 0 ≤ n := by omega
  have h2' : n ≤ 50 := by omega
  have hnn := Tide.liveN_nn l
  have HU := Lib.hid (show Tide.scaleUp l n = (n - Tide.liveN l).toNat by unfold Tide.scaleUp; rw [if_neg (by omega)])
  have HD := Lib.hid (show Tide.scaleDown l n = (Tide.liveN l - n).toNat by unfold Tide.scaleDown; rw [if_neg (by omega)])
  have HE := Lib.hid (show Tide.scaleErr n = 0 by unfold Tide.scaleErr; rw [if_neg (by omega)])
  have HCr := Lib.hid hcr
  have hl0 := hcr.last0
  obtain ⟨i0, hi, hz0, hz1, hz2⟩ := info_parts fle_info
  have hUle := Lib.hid (show Tide.scaleUp l n ≤ 50 by rw [HU.out]; omega)
  clear h1 h2 hcr
  go_enter Try.func30, Try.ntmps30
  go_wp2_with fail
  go_loopg [] (Tide.scaleUp l n) (fun k wr => ∃ (m : Nat) (vk : Value), m ≤ Tide.scaleUp l n ∧ k = Tide.scaleUp l n - m ∧ Hid (FAt 88 (Tide.Plus S w wr) wr g vk (l ++ Tide.newPods last m) (last + m) most ∧ Tide.Chg S w wr))
  case atStart => exact ⟨0, _, by omega, by omega, Lib.hid ⟨by simpa [Tide.newPods] using HH.out.up, Tide.Chg.refl _ _⟩⟩
  case round =>
    obtain ⟨m, vk, hmk, hke, HF⟩ := hrel
    have HKe := Lib.hid hke; have HMk := Lib.hid hmk
    have HLv := Lib.hid (Tide.live_more l last m)
    have hL : (l ++ Tide.newPods last m).length < 10000000 := by simp [Tide.newPods_length]; have := hUle.out; omega
    have HLL := Lib.hid hL
    have HSucc := Lib.hid (show l ++ Tide.newPods last (m + 1) = (l ++ Tide.newPods last m) ++ [⟨last + 1 + m, 1, 0⟩] by rw [Tide.newPods_succ, List.append_assoc])
    have HAll := Lib.hid (show Tide.scaleLst l last n = Tide.fewerN (Tide.scaleDown l n) (l ++ Tide.newPods last (Tide.scaleUp l n)) from rfl)
    have HLast := Lib.hid (show Tide.scaleLast l last n = last + (Tide.scaleUp l n : Nat) from rfl)
    have HCm := Lib.hid (HCr.out.more hm m)
    clear hke hmk hL
    by_cases hlt : m < Tide.scaleUp l n
    · have hcmp : Tide.liveN (l ++ Tide.newPods last m) < n := by have e := HLv.out; have e2 := HU.out; omega
      have HM := Lib.hid hlt
      have hmm : (m : Int) ≤ 50 := by have := hUle.out; omega
      clear hlt HAll HLast
      go_wp2_with fail
      refine (fleCount _ g vk _ _ most _ HF.out.1).mono ?_
      rintro e w1 ⟨rfl, hb1⟩
      have HC1 := Lib.hid (HF.out.2.step_below hb1 HF.out.2.size)
      have h1F := (HF.out.1.below hb1).wide hb1.size HC1.out.size
      have hd := h1F.head.here (i := 1) rfl
      have fd := h1F.head.soft 1
      have t1 := h1F.tick (by decide) (last + m + 1)
      have HT := Lib.hid (show FAt 88 (Tide.Plus S w (w1.setCell ⟨g, 1, none⟩ (.int .i64 (last + m + 1)))) (w1.setCell ⟨g, 1, none⟩ (.int .i64 (last + m + 1))) g vk (l ++ Tide.newPods last m) (last + m + 1) most ∧ Tide.Chg S w (w1.setCell ⟨g, 1, none⟩ (.int .i64 (last + m + 1))) from ⟨t1.1.wide t1.2.size (by have := t1.2.size; have := HC1.out.size; omega), HC1.out.plus t1.2⟩)
      clear hb1 h1F t1 HF HC1
      generalize Tide.liveN (l ++ Tide.newPods last m) = cN at hcmp HLv ⊢
      generalize l ++ Tide.newPods last m = L at HT HSucc HLL HCm ⊢
      go_upto_region 5 with fail
      clear hd fd hcmp
      obtain ⟨W, hW⟩ : ∃ W, Hid (w1.setCell ⟨g, 1, none⟩ (.int .i64 (last + m + 1)) = W) := ⟨_, Lib.hid rfl⟩
      rw [hW.out] at HT ⊢
      have hc : W.cell? ⟨g, 0, none⟩ = some vk := HT.out.1.head.here rfl
      have hd : W.cell? ⟨g, 1, none⟩ = some (.int .i64 (last + m + 1)) := HT.out.1.head.here rfl
      have f0 := HT.out.1.head.soft 0
      have hgw : g < W.heap.size := HT.out.1.head.inside
      have hm3 : Hid (L.length + 1 ≤ maxLen) := Lib.hid (by have := HLL.out; simp only [maxLen]; omega)
      have hm4 : Hid ((L.length + 1) * 24 ≤ 140737488355328) := Lib.hid (by have := HLL.out; omega)
      clear hW
      go_wp2_with fail
      go_region_law (refine step_append_lies _ (by rfl) (.tmp 26) (.tmp 32) 58 (by rfl) 0 64 i0 (.agg #[.int .i64 0, .int .i64 0, .int .i64 0]) 3 24 Try.underlying58 hi hz0 hz1 hz2 rfl (by decide) vk _ _ rfl (HT.out.1.alloc _).drew.row.owns ⟨W.heap.size, 0, none⟩ 1 1 [.int .i64 (last + m + 1), .int .i64 1, .int .i64 0] rfl rfl (Tide.new_cells_at rfl) (by simp [Value.oneCell']) (by decide) hm3.out hm4.out (Nat.zero_le _) _ rfl ?_; intro b cap w3 hown hg ho hlt; obtain ⟨⟨d9, f9⟩, hA, hC⟩ := HT.out.1.drew.app (r := ⟨last + m + 1, 1, 0⟩) (by decide) HLL.out hown hg (ho.imp id (fun e => e.trans (fle_alloc_size _ _))) hlt)
      all_goals
        have HN := Lib.hid (FAt.plus (w := W.drew) HT.out.2.drew hA hC)
        clear hown hg ho hlt hA hC hc hd f0 d9 f9 hgw
        go_wp2_with fail
        go_roundg (Tide.scaleUp l n - (m + 1))
        case measure => have := HM.out; have := HKe.out; omega
        case rel => exact ⟨m + 1, _, by have := HM.out; omega, rfl, Lib.hid ⟨by rw [HSucc.out, show last + 1 + (m : Int) = last + m + 1 by omega, show last + ((m + 1 : Nat) : Int) = last + m + 1 by omega]; exact HN.out.1, HN.out.2⟩⟩
    · have hme : m = Tide.scaleUp l n := by have := HMk.out; omega
      subst hme
      have hcmp : n ≤ Tide.liveN (l ++ Tide.newPods last (Tide.scaleUp l n)) := by have e := HLv.out; have e2 := HU.out; omega
      have HLv2 := Lib.hid (show Tide.liveN (l ++ Tide.newPods last (Tide.scaleUp l n)) - n = (Tide.scaleDown l n : Int) by have e := HLv.out; have e2 := HU.out; have e3 := HD.out; omega)
      clear hlt HSucc
      rw [← HLast.out] at HF HCm
      generalize l ++ Tide.newPods last (Tide.scaleUp l n) = L at HF HAll HLv2 HCm hcmp HLL HLv ⊢
      go_wp2_with fail
      refine (fleCount _ g vk _ _ most _ HF.out.1).mono ?_
      rintro e w1 ⟨rfl, hb1⟩
      have HC1 := Lib.hid (HF.out.2.step_below hb1 HF.out.2.size)
      have H1 := Lib.hid (show FAt 88 (Tide.Plus S w w1) w1 g vk L (Tide.scaleLast l last n) most ∧ Tide.Chg S w w1 from ⟨(HF.out.1.below hb1).wide hb1.size HC1.out.size, HC1.out⟩)
      clear hb1 HF HC1
      go_wp2_with fail
      go_loopg [] (Tide.scaleDown l n) (fun k wr => ∃ (j : Nat) (vj : Value), j ≤ Tide.scaleDown l n ∧ k = Tide.scaleDown l n - j ∧ Hid (FAt 88 (Tide.Plus S w wr) wr g vj (Tide.fewerN j L) (Tide.scaleLast l last n) most ∧ Tide.Chg S w wr))
      case atStart => exact ⟨0, _, by omega, by omega, H1⟩
      case round =>
        clear H1
        obtain ⟨j, vj, hjk, hke, HF⟩ := hrel
        have hfn := Lib.hid (HCm.out.fewerN j (by have := HLv2.out; omega))
        have HKe := Lib.hid hke; have HJk := Lib.hid hjk
        have HS := Lib.hid (Tide.fewerN_succ j L)
        clear hke hjk
        go_wp2_with fail
        refine (fleCount _ g vj _ _ most _ HF.out.1).mono ?_
        rintro e w2 ⟨rfl, hb2⟩
        have HC2 := Lib.hid (HF.out.2.step_below hb2 HF.out.2.size)
        have H2 := Lib.hid (show FAt 88 (Tide.Plus S w w2) w2 g vj (Tide.fewerN j L) (Tide.scaleLast l last n) most ∧ Tide.Chg S w w2 from ⟨(HF.out.1.below hb2).wide hb2.size HC2.out.size, HC2.out⟩)
        clear hb2 HF HC2
        by_cases hlt : j < Tide.scaleDown l n
        · have hcm2 : n < Tide.liveN (Tide.fewerN j L) := by have := hfn.out.2.1; have := HLv2.out; omega
          have HJ := Lib.hid hlt
          have HP := Lib.hid (show 0 < Tide.liveN (Tide.fewerN j L) by omega)
          clear hlt hcmp
          generalize Tide.liveN (Tide.fewerN j L) = cN at hcm2 ⊢
          go_wp2_with fail
          refine (fleFewer _ g vj _ _ most _ H2.out.1 hfn.out.1.states HP.out).mono ?_
          rintro e w3 ⟨⟨x, rfl⟩, ⟨v3, h3⟩, c3⟩
          have HN := Lib.hid (show FAt 88 (Tide.Plus S w w3) w3 g v3 (Tide.fewerN (j + 1) L) (Tide.scaleLast l last n) most ∧ Tide.Chg S w w3 from ⟨by rw [HS.out]; exact h3.wide c3.size (Nat.le_trans H2.out.2.size c3.size), H2.out.2.plus c3⟩)
          clear h3 c3
          go_wp2_with fail
          go_roundg (Tide.scaleDown l n - (j + 1))
          case measure => have := HJ.out; have := HKe.out; omega
          case rel => exact ⟨j + 1, _, by have := HJ.out; omega, rfl, HN⟩
        · have hje : j = Tide.scaleDown l n := by have := HJk.out; omega
          subst hje
          have hcm2 : Tide.liveN (Tide.fewerN (Tide.scaleDown l n) L) ≤ n := by have := hfn.out.2.1; have := HLv2.out; omega
          have HR := Lib.hid (show ScalePost 88 S w g l last most n (.returned (.int .i64 0)) w2 from ⟨by rw [HE.out], ⟨_, by rw [HAll.out]; exact H2.out.1⟩, H2.out.2⟩)
          clear hlt hcmp
          generalize Tide.liveN (Tide.fewerN (Tide.scaleDown l n) L) = cN at hcm2 ⊢
          go_wp2_with fail
          go_ret
          exact HR.out
end Go.Proofs.Ytgcdomoecikooaa
