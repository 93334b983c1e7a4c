/- Of the texts FleG, FleH, BufC, BufD: what this claim reaches. -/
import Derived.WalkKit
import Derived.WalkSpells
import Derived.WalkLawsBesides
import Derived.Lib.Hide
import Derived.Handy
import Derived.RegionTactic
import Derived.BigRegion
import Derived.Deep.QuietTactic
import Derived.BigQuiet
import Derived.Deep.RegionLaw
import Derived.Deep.AppendLies
import Derived.Deep.DeepCutAuto
import Derived.Test.YtidonhndeohdlaaGreatDoorRows
import Derived.Test.YtidonhndeohdlaaGreatDoorTt04
import Derived.Test.YtidonhndeohdlaaGreatDoorTt03
import Derived.Test.YtidonhndeohdlaaGreatDoorTt02
set_option linter.unusedVariables false
set_option linter.unusedSimpArgs false
namespace Go.Proofs.YtidonhndeohdlaaGreatDoor
open Go.RowKit
theorem fle_alloc_size (w : World) (o : Obj) : (w.alloc o).drew.heap.size = w.drew.heap.size + 1 := by
  show (w.alloc o).heap.size = w.heap.size + 1
  simp
section
variable {T : TypeId} {S : Nat → Prop} {w w1 : World} {g b cap : Nat} {l : List Tide.Pod} {v : Value} {last most : Int}
theorem FAt.tick (h : FAt T S w g v l last most) (hT : T ≠ 40) (x : Int) : FAt T S (w.setCell ⟨g, 1, none⟩ (.int .i64 x)) g v l x most ∧ Tide.Chg S w (w.setCell ⟨g, 1, none⟩ (.int .i64 x)) :=
  ⟨⟨h.head.put 1 _, h.row.aside (p := ⟨g, 1, none⟩) (h.apart hT) _, h.own, h.small, fun c hc => by rw [Tide.size_put]; exact h.lim c hc⟩, (Tide.Chg.refl S w).put (p := ⟨g, 1, none⟩) (.inl h.own) _⟩
theorem FAt.app {r : Tide.Pod} {o : Obj} (h : FAt T S w g v l last most) (hT : T ≠ 40) (hl : l.length < 10000000)
    (h1 : w1.ownsRow 0 40 3 (.slice (some ⟨b, 0, none⟩) (l.length + 1) cap) (l.length + 1) (l.flatMap Tide.Pod.enc ++ r.enc)) (hg : (w.alloc o).grownBy w1 v.ownBlock) (ho : v.ownBlock = some b ∨ b = w.heap.size + 1) (hlt : b < w1.heap.size) :
    (w1.cell? ⟨g, 0, none⟩ = some v ∧ w1.frozen? ⟨g, 0, none⟩ = false) ∧
    FAt T (Tide.Plus S w (w1.setCell ⟨g, 0, none⟩ (.slice (some ⟨b, 0, none⟩) (l.length + 1) cap))) (w1.setCell ⟨g, 0, none⟩ (.slice (some ⟨b, 0, none⟩) (l.length + 1) cap)) g (.slice (some ⟨b, 0, none⟩) (l.length + 1) cap) (l ++ [r]) last most ∧
    Tide.Chg S w (w1.setCell ⟨g, 0, none⟩ (.slice (some ⟨b, 0, none⟩) (l.length + 1) cap)) := by
  have z : (w.alloc o).heap.size = w.heap.size + 1 := by simp
  obtain ⟨r1, r2⟩ := (h.row.alloc o).app h1 hg (ho.imp id (fun e => by rw [e, z])) hlt
  have hA := (h.head.alloc o).grown hg (fun e => h.row.apartAt h.head (Ne.symm hT) g e rfl)
  have z2 := r2.size
  have e1 : (l ++ [r]).length = l.length + 1 := by simp
  have e2 : (l ++ [r]).flatMap Tide.Pod.enc = l.flatMap Tide.Pod.enc ++ r.enc := by simp
  refine ⟨⟨hA.here rfl, hA.soft 0⟩, ⟨hA.put 0 _, ?_, .inl h.own, by rw [e1]; omega, fun c hb => ?_⟩, ((Tide.Chg.refl S w).alloc o).trans (r2.put (.inl h.own) _)⟩
  · rw [e1, e2]
    refine (r1.mono fun c hc hb => ?_).aside (p := ⟨g, 0, none⟩) (r1.apartAt hA (Ne.symm hT)) _
    rcases hb with hb | hb
    · exact .inl hb
    · exact .inr ⟨by omega, by rw [Tide.size_put]; exact hc⟩
  · rcases hb with hb | hb
    · have := h.lim c hb
      rw [Tide.size_put]; omega
    · exact hb.2
theorem FAt.plus {w0 w2 : World} {v' : Value} {l' : List Tide.Pod} {last' : Int} (hc : Tide.Chg S w0 w) (h : FAt T (Tide.Plus (Tide.Plus S w0 w) w w2) w2 g v' l' last' most) (hc2 : Tide.Chg (Tide.Plus S w0 w) w w2) : FAt T (Tide.Plus S w0 w2) w2 g v' l' last' most ∧ Tide.Chg S w0 w2 := by
  have z1 := hc.size
  have z2 := hc2.size
  refine ⟨h.mono (fun c hlt hb => ?_) (fun c hb => ?_), hc.plus hc2⟩
  · rcases hb with hb | hb
    · exact hb.up (by omega)
    · exact .inr ⟨by omega, hlt⟩
  · rcases hb with hb | hb
    · exact h.lim c (.inl (.inl hb))
    · exact hb.2
end
theorem FAt.wide {T : TypeId} {S : Nat → Prop} {w0 w w' : World} {g : Nat} {v : Value} {l : List Tide.Pod} {last most : Int} (h : FAt T (Tide.Plus S w0 w) w' g v l last most) (hz : w.heap.size ≤ w'.heap.size) (hz0 : w0.heap.size ≤ w'.heap.size) : FAt T (Tide.Plus S w0 w') w' g v l last most :=
  h.mono (fun c _ hb => hb.up hz) (fun c hb => by
    rcases hb with hb | hb
    · exact h.lim c (.inl hb)
    · exact hb.2)
def ScalePost (T : TypeId) (S : Nat → Prop) (w : World) (g : Nat) (l : List Tide.Pod) (last most n : Int) (e : Ending) (w' : World) : Prop :=
  e = .returned (.int .i64 (Tide.scaleErr n)) ∧ (∃ v, FAt T (Tide.Plus S w w') w' g v (Tide.scaleLst l last n) (Tide.scaleLast l last n) most) ∧ Tide.Chg S w w'
theorem scale_no {T : TypeId} {S : Nat → Prop} {w : World} {g : Nat} {v : Value} {l : List Tide.Pod} {last most n : Int} (h : FAt T S w g v l last most) (hn : n < 0 ∨ 50 < n) : ScalePost T S w g l last most n (.returned (.int .i64 1)) w := by
  refine ⟨by unfold Tide.scaleErr; rw [if_pos hn], ⟨v, ?_⟩, Tide.Chg.refl _ _⟩
  unfold Tide.scaleLst Tide.scaleLast Tide.scaleUp Tide.scaleDown
  rw [if_pos hn, if_pos hn]
  simpa [Tide.newPods, Tide.thinN] using h.up
set_option maxRecDepth 100000 in
set_option maxHeartbeats 12800000 in
theorem fleScale (S : Nat → Prop) (g : Nat) (v : Value) (l : List Tide.Pod) (last most n : Int) (w : World) (h : FAt 120 S w g v l last most) (hcr : Tide.Crewed l last most) (hm : 0 ≤ most) (hsm : l.length ≤ 9000000) (hla : last ≤ 1000000000000) :
    Calls Tryz.prog 95 #[.pointer (some ⟨g, 0, none⟩), .int .i64 n] w (ScalePost 120 S w g l last most n) := by
  have HH := Lib.hid h
  clear h
  by_cases h1 : n < 0
  · have HF := Lib.hid (scale_no HH.out (.inl h1))
    go_enter Tryz.func95, Tryz.ntmps95
    go_wp2_with fail
    go_ret
    exact HF.out
  by_cases h2 : 50 < n
  · have HF := Lib.hid (scale_no HH.out (.inr h2))
    have h1' : 0 ≤ n := by omega
    clear h1
    go_enter Tryz.func95, Tryz.ntmps95
    go_wp2_with fail
    go_ret
    exact HF.out
  have h1' : 0 ≤ n := by omega
  have h2' : n ≤ 50 := by omega
  have hnn := Tide.liveN_nn l
  have HU := Lib.hid (show Tide.scaleUp l n = (n - Tide.liveN l).toNat by unfold Tide.scaleUp; rw [if_neg (by omega)])
  have HD := Lib.hid (show Tide.scaleDown l n = (Tide.liveN l - n).toNat by unfold Tide.scaleDown; rw [if_neg (by omega)])
  have HE := Lib.hid (show Tide.scaleErr n = 0 by unfold Tide.scaleErr; rw [if_neg (by omega)])
  have HCr := Lib.hid hcr
  have hl0 := hcr.last0
  obtain ⟨i0, hi, hz0, hz1, hz2⟩ := info_parts fle_info
  have hUle := Lib.hid (show Tide.scaleUp l n ≤ 50 by rw [HU.out]; omega)
  clear h1 h2 hcr
  go_enter Tryz.func95, Tryz.ntmps95
  go_wp2_with fail
  go_loopg [] (Tide.scaleUp l n) (fun k wr => ∃ (m : Nat) (vk : Value), m ≤ Tide.scaleUp l n ∧ k = Tide.scaleUp l n - m ∧ Hid (FAt 120 (Tide.Plus S w wr) wr g vk (l ++ Tide.newPods last m) (last + m) most ∧ Tide.Chg S w wr))
  case atStart => exact ⟨0, _, by omega, by omega, Lib.hid ⟨by simpa [Tide.newPods] using HH.out.up, Tide.Chg.refl _ _⟩⟩
  case round =>
    obtain ⟨m, vk, hmk, hke, HF⟩ := hrel
    have HKe := Lib.hid hke; have HMk := Lib.hid hmk
    have HLv := Lib.hid (Tide.live_more l last m)
    have hL : (l ++ Tide.newPods last m).length < 10000000 := by simp [Tide.newPods_length]; have := hUle.out; omega
    have HLL := Lib.hid hL
    have HSucc := Lib.hid (show l ++ Tide.newPods last (m + 1) = (l ++ Tide.newPods last m) ++ [⟨last + 1 + m, 1, 0⟩] by rw [Tide.newPods_succ, List.append_assoc])
    have HAll := Lib.hid (show Tide.scaleLst l last n = Tide.thinN (Tide.scaleDown l n) (l ++ Tide.newPods last (Tide.scaleUp l n)) from rfl)
    have HLast := Lib.hid (show Tide.scaleLast l last n = last + (Tide.scaleUp l n : Nat) from rfl)
    have HCm := Lib.hid (HCr.out.more hm m)
    clear hke hmk hL
    by_cases hlt : m < Tide.scaleUp l n
    · have hcmp : Tide.liveN (l ++ Tide.newPods last m) < n := by have e := HLv.out; have e2 := HU.out; omega
      have HM := Lib.hid hlt
      have hmm : (m : Int) ≤ 50 := by have := hUle.out; omega
      clear hlt HAll HLast
      go_wp2_with fail
      refine (fleCount _ g vk _ _ most _ HF.out.1).mono ?_
      rintro e w1 ⟨rfl, hb1⟩
      have HC1 := Lib.hid (HF.out.2.step_below hb1 HF.out.2.size)
      have h1F := (HF.out.1.below hb1).wide hb1.size HC1.out.size
      have hd := h1F.head.here (i := 1) rfl
      have fd := h1F.head.soft 1
      have t1 := h1F.tick (by decide) (last + m + 1)
      have HT := Lib.hid (show FAt 120 (Tide.Plus S w (w1.setCell ⟨g, 1, none⟩ (.int .i64 (last + m + 1)))) (w1.setCell ⟨g, 1, none⟩ (.int .i64 (last + m + 1))) g vk (l ++ Tide.newPods last m) (last + m + 1) most ∧ Tide.Chg S w (w1.setCell ⟨g, 1, none⟩ (.int .i64 (last + m + 1))) from ⟨t1.1.wide t1.2.size (by have := t1.2.size; have := HC1.out.size; omega), HC1.out.plus t1.2⟩)
      clear hb1 h1F t1 HF HC1
      generalize Tide.liveN (l ++ Tide.newPods last m) = cN at hcmp HLv ⊢
      generalize l ++ Tide.newPods last m = L at HT HSucc HLL HCm ⊢
      go_upto_region 5 with fail
      clear hd fd hcmp
      obtain ⟨W, hW⟩ : ∃ W, Hid (w1.setCell ⟨g, 1, none⟩ (.int .i64 (last + m + 1)) = W) := ⟨_, Lib.hid rfl⟩
      rw [hW.out] at HT ⊢
      have hc : W.cell? ⟨g, 0, none⟩ = some vk := HT.out.1.head.here rfl
      have hd : W.cell? ⟨g, 1, none⟩ = some (.int .i64 (last + m + 1)) := HT.out.1.head.here rfl
      have f0 := HT.out.1.head.soft 0
      have hgw : g < W.heap.size := HT.out.1.head.inside
      have hm3 : Hid (L.length + 1 ≤ maxLen) := Lib.hid (by have := HLL.out; simp only [maxLen]; omega)
      have hm4 : Hid ((L.length + 1) * 24 ≤ 140737488355328) := Lib.hid (by have := HLL.out; omega)
      clear hW
      go_wp2_with fail
      go_region_law (refine step_append_lies _ (by rfl) (.tmp 26) (.tmp 32) 38 (by rfl) 0 40 i0 (.agg #[.int .i64 0, .int .i64 0, .int .i64 0]) 3 24 Tryz.underlying38 hi hz0 hz1 hz2 rfl (by decide) vk _ _ rfl (HT.out.1.alloc _).drew.row.owns ⟨W.heap.size, 0, none⟩ 1 1 [.int .i64 (last + m + 1), .int .i64 1, .int .i64 0] rfl rfl (Tide.new_cells_at rfl) (by simp [Value.oneCell']) (by decide) hm3.out hm4.out (Nat.zero_le _) _ rfl ?_; intro b cap w3 hown hg ho hlt; obtain ⟨⟨d9, f9⟩, hA, hC⟩ := HT.out.1.drew.app (r := ⟨last + m + 1, 1, 0⟩) (by decide) HLL.out hown hg (ho.imp id (fun e => e.trans (fle_alloc_size _ _))) hlt)
      all_goals
        have HN := Lib.hid (FAt.plus (w := W.drew) HT.out.2.drew hA hC)
        clear hown hg ho hlt hA hC hc hd f0 d9 f9 hgw
        go_wp2_with fail
        go_roundg (Tide.scaleUp l n - (m + 1))
        case measure => have := HM.out; have := HKe.out; omega
        case rel => exact ⟨m + 1, _, by have := HM.out; omega, rfl, Lib.hid ⟨by rw [HSucc.out, show last + 1 + (m : Int) = last + m + 1 by omega, show last + ((m + 1 : Nat) : Int) = last + m + 1 by omega]; exact HN.out.1, HN.out.2⟩⟩
    · have hme : m = Tide.scaleUp l n := by have := HMk.out; omega
      subst hme
      have hcmp : n ≤ Tide.liveN (l ++ Tide.newPods last (Tide.scaleUp l n)) := by have e := HLv.out; have e2 := HU.out; omega
      have HLv2 := Lib.hid (show Tide.liveN (l ++ Tide.newPods last (Tide.scaleUp l n)) - n = (Tide.scaleDown l n : Int) by have e := HLv.out; have e2 := HU.out; have e3 := HD.out; omega)
      clear hlt HSucc
      rw [← HLast.out] at HF HCm
      generalize l ++ Tide.newPods last (Tide.scaleUp l n) = L at HF HAll HLv2 HCm hcmp HLL HLv ⊢
      go_wp2_with fail
      refine (fleCount _ g vk _ _ most _ HF.out.1).mono ?_
      rintro e w1 ⟨rfl, hb1⟩
      have HC1 := Lib.hid (HF.out.2.step_below hb1 HF.out.2.size)
      have H1 := Lib.hid (show FAt 120 (Tide.Plus S w w1) w1 g vk L (Tide.scaleLast l last n) most ∧ Tide.Chg S w w1 from ⟨(HF.out.1.below hb1).wide hb1.size HC1.out.size, HC1.out⟩)
      clear hb1 HF HC1
      go_wp2_with fail
      go_loopg [] (Tide.scaleDown l n) (fun k wr => ∃ (j : Nat) (vj : Value), j ≤ Tide.scaleDown l n ∧ k = Tide.scaleDown l n - j ∧ Hid (FAt 120 (Tide.Plus S w wr) wr g vj (Tide.thinN j L) (Tide.scaleLast l last n) most ∧ Tide.Chg S w wr))
      case atStart => exact ⟨0, _, by omega, by omega, H1⟩
      case round =>
        clear H1
        obtain ⟨j, vj, hjk, hke, HF⟩ := hrel
        have hfn := Lib.hid (HCm.out.thinN j (by have := HLv2.out; omega))
        have HKe := Lib.hid hke; have HJk := Lib.hid hjk
        have HS := Lib.hid (Tide.thinN_succ j L)
        clear hke hjk
        go_wp2_with fail
        refine (fleCount _ g vj _ _ most _ HF.out.1).mono ?_
        rintro e w2 ⟨rfl, hb2⟩
        have HC2 := Lib.hid (HF.out.2.step_below hb2 HF.out.2.size)
        have H2 := Lib.hid (show FAt 120 (Tide.Plus S w w2) w2 g vj (Tide.thinN j L) (Tide.scaleLast l last n) most ∧ Tide.Chg S w w2 from ⟨(HF.out.1.below hb2).wide hb2.size HC2.out.size, HC2.out⟩)
        clear hb2 HF HC2
        by_cases hlt : j < Tide.scaleDown l n
        · have hcm2 : n < Tide.liveN (Tide.thinN j L) := by have := hfn.out.2.1; have := HLv2.out; omega
          have HJ := Lib.hid hlt
          have HP := Lib.hid (show 0 < Tide.liveN (Tide.thinN j L) by omega)
          clear hlt hcmp
          generalize Tide.liveN (Tide.thinN j L) = cN at hcm2 ⊢
          go_wp2_with fail
          refine (fleFewer _ g vj _ _ most _ H2.out.1 hfn.out.1.states HP.out).mono ?_
          rintro e w3 ⟨⟨x, rfl⟩, ⟨v3, h3⟩, c3⟩
          have HN := Lib.hid (show FAt 120 (Tide.Plus S w w3) w3 g v3 (Tide.thinN (j + 1) L) (Tide.scaleLast l last n) most ∧ Tide.Chg S w w3 from ⟨by rw [HS.out]; exact h3.wide c3.size (Nat.le_trans H2.out.2.size c3.size), H2.out.2.plus c3⟩)
          clear h3 c3
          go_wp2_with fail
          go_roundg (Tide.scaleDown l n - (j + 1))
          case measure => have := HJ.out; have := HKe.out; omega
          case rel => exact ⟨j + 1, _, by have := HJ.out; omega, rfl, HN⟩
        · have hje : j = Tide.scaleDown l n := by have := HJk.out; omega
          subst hje
          have hcm2 : Tide.liveN (Tide.thinN (Tide.scaleDown l n) L) ≤ n := by have := hfn.out.2.1; have := HLv2.out; omega
          have HR := Lib.hid (show ScalePost 120 S w g l last most n (.returned (.int .i64 0)) w2 from ⟨by rw [HE.out], ⟨_, by rw [HAll.out]; exact H2.out.1⟩, H2.out.2⟩)
          clear hlt hcmp
          generalize Tide.liveN (Tide.thinN (Tide.scaleDown l n) L) = cN at hcm2 ⊢
          go_wp2_with fail
          go_ret
          exact HR.out
open Go.RowKit
def FleOut (T : TypeId) (S : Nat → Prop) (w : World) (g : Nat) (x : Value) (l : List Tide.Pod) (last most : Int) (e : Ending) (w' : World) : Prop :=
  e = .returned x ∧ (∃ v, FAt T S w' g v l last most) ∧ Tide.Chg S w w'
theorem fle_out {T : TypeId} {S : Nat → Prop} {w w' w1 : World} {g : Nat} {x x' v : Value} {l l' : List Tide.Pod} {last most : Int} (hb : Below w.heap.size w w1) (h : FAt T S w' g v l' last most) (hc : Tide.Chg S w1 w') (e : x' = x) (el : l' = l) : FleOut T S w g x l last most (.returned x') w' :=
  ⟨by rw [e], ⟨v, el ▸ h⟩, (Tide.Chg.of_below hb (Nat.le_refl _)).trans hc⟩
set_option maxRecDepth 100000 in
set_option maxHeartbeats 3200000 in
theorem fleTurn (S : Nat → Prop) (g : Nat) (v : Value) (l : List Tide.Pod) (last most id src dst : Int) (w : World) (h : FAt 120 S w g v l last most) :
    Calls Tryz.prog 71 #[.pointer (some ⟨g, 0, none⟩), .int .i64 id, .int .i64 src, .int .i64 dst] w (FleOut 120 S w g (.int .i64 (Tide.turnErr l id src)) (Tide.turnLst l id src dst) last most) := by
  have hs := h.small
  have HH := Lib.hid h
  clear h
  go_enter Tryz.func71, Tryz.ntmps71
  go_wp2_with fail
  refine (fleFind S g v l last most id _ HH.out).mono ?_
  rintro e w1 ⟨rfl, hb1⟩
  have HB := Lib.hid hb1
  clear hb1
  cases hf : Tide.findP l id with
  | none =>
    rw [idx_none]
    have HR := Lib.hid (show FleOut 120 S w g (.int .i64 (Tide.turnErr l id src)) (Tide.turnLst l id src dst) last most (.returned (.int .i64 4)) w1 from fle_out HB.out (HH.out.below HB.out) (Tide.Chg.refl _ _) (by unfold Tide.turnErr; rw [hf]) (by unfold Tide.turnLst; rw [hf]))
    clear hf
    go_wp2_with fail
    go_ret
    exact HR.out
  | some i =>
    rw [idx_some]
    obtain ⟨p, hp, _⟩ := Tide.findP_some hf
    obtain ⟨b, cap, rfl, hS, _, _, hbl, c0, c1, c2, fz⟩ := (HH.out.below HB.out).pod hp
    have hc : w1.cell? ⟨g, 0, none⟩ = some (.slice (some ⟨b, 0, none⟩) l.length cap) := (HH.out.below HB.out).head.here rfl
    have hil := Tide.get_lt hp
    have i0 : (0 : Int) ≤ (i : Int) := by omega
    have i1 : (i : Int) < (l.length : Int) := by omega
    have f1 := fz (i * 3 + 1)
    by_cases q : p.state = src
    · have p1 := (HH.out.below HB.out).put (by decide) (k := i) (j := 1) (r' := { p with state := dst }) (u := .int .i64 dst) hp (by decide) rfl
      have HR := Lib.hid (show FleOut 120 S w g (.int .i64 (Tide.turnErr l id src)) (Tide.turnLst l id src dst) last most (.returned (.int .i64 0)) _ from fle_out HB.out p1.1 p1.2 (by unfold Tide.turnErr; rw [hf]; simp only [hp]; rw [if_pos q]) (by unfold Tide.turnLst; rw [hf]; simp only [hp]; rw [if_pos q]))
      have q2 : (p.state != src) = false := by simp [q]
      clear hf hp p1 c0 c2 fz q
      go_wp2_with fail
      go_ret
      exact HR.out
    · have HR := Lib.hid (show FleOut 120 S w g (.int .i64 (Tide.turnErr l id src)) (Tide.turnLst l id src dst) last most (.returned (.int .i64 7)) w1 from fle_out HB.out (HH.out.below HB.out) (Tide.Chg.refl _ _) (by unfold Tide.turnErr; rw [hf]; simp only [hp]; rw [if_neg q]) (by unfold Tide.turnLst; rw [hf]; simp only [hp]; rw [if_neg q]))
      have q2 : (p.state != src) = true := by simp [q]
      clear hf hp c0 c2 fz q f1
      go_wp2_with fail
      go_ret
      exact HR.out
set_option maxHeartbeats 800000 in
theorem fleStart (S : Nat → Prop) (g : Nat) (v : Value) (l : List Tide.Pod) (last most id : Int) (w : World) (h : FAt 120 S w g v l last most) :
    Calls Tryz.prog 38 #[.pointer (some ⟨g, 0, none⟩), .int .i64 id] w (FleOut 120 S w g (.int .i64 (Tide.turnErr l id 1)) (Tide.turnLst l id 1 2) last most) := by
  have HH := Lib.hid h
  clear h
  go_enter Tryz.func38, Tryz.ntmps38
  go_wp2_with fail
  refine (fleTurn S g v l last most id 1 2 _ HH.out).mono ?_
  rintro e w1 ⟨rfl, h1, c1⟩
  have HR := Lib.hid (show FleOut 120 S w g (.int .i64 (Tide.turnErr l id 1)) (Tide.turnLst l id 1 2) last most (.returned (.int .i64 (Tide.turnErr l id 1))) w1 from ⟨rfl, h1, c1⟩)
  clear h1 c1
  go_wp2_with fail
  go_ret
  exact HR.out
set_option maxHeartbeats 800000 in
theorem fleReady (S : Nat → Prop) (g : Nat) (v : Value) (l : List Tide.Pod) (last most id : Int) (w : World) (h : FAt 120 S w g v l last most) :
    Calls Tryz.prog 40 #[.pointer (some ⟨g, 0, none⟩), .int .i64 id] w (FleOut 120 S w g (.int .i64 (Tide.turnErr l id 2)) (Tide.turnLst l id 2 3) last most) := by
  have HH := Lib.hid h
  clear h
  go_enter Tryz.func40, Tryz.ntmps40
  go_wp2_with fail
  refine (fleTurn S g v l last most id 2 3 _ HH.out).mono ?_
  rintro e w1 ⟨rfl, h1, c1⟩
  have HR := Lib.hid (show FleOut 120 S w g (.int .i64 (Tide.turnErr l id 2)) (Tide.turnLst l id 2 3) last most (.returned (.int .i64 (Tide.turnErr l id 2))) w1 from ⟨rfl, h1, c1⟩)
  clear h1 c1
  go_wp2_with fail
  go_ret
  exact HR.out
set_option maxRecDepth 100000 in
set_option maxHeartbeats 3200000 in
theorem fleCrash (S : Nat → Prop) (g : Nat) (v : Value) (l : List Tide.Pod) (last most id : Int) (w : World) (h : FAt 120 S w g v l last most) :
    Calls Tryz.prog 72 #[.pointer (some ⟨g, 0, none⟩), .int .i64 id] w (FleOut 120 S w g (.tuple #[.int .i64 (Tide.crashNum l id), .int .i64 (Tide.crashErr l id)]) (Tide.crashLst l id) last most) := by
  have hs := h.small
  have HH := Lib.hid h
  clear h
  go_enter Tryz.func72, Tryz.ntmps72
  go_wp2_with fail
  refine (fleFind S g v l last most id _ HH.out).mono ?_
  rintro e w1 ⟨rfl, hb1⟩
  have HB := Lib.hid hb1
  clear hb1
  cases hf : Tide.findP l id with
  | none =>
    rw [idx_none]
    have HR := Lib.hid (show FleOut 120 S w g (.tuple #[.int .i64 (Tide.crashNum l id), .int .i64 (Tide.crashErr l id)]) (Tide.crashLst l id) last most (.returned (.tuple #[.int .i64 0, .int .i64 4])) w1 from fle_out HB.out (HH.out.below HB.out) (Tide.Chg.refl _ _) (by unfold Tide.crashErr Tide.crashNum; rw [hf]) (by unfold Tide.crashLst; rw [hf]))
    clear hf
    go_wp2_with fail
    go_ret2
    exact HR.out
  | some i =>
    rw [idx_some]
    obtain ⟨p, hp, _⟩ := Tide.findP_some hf
    obtain ⟨b, cap, rfl, hS, _, _, hbl, c0, c1, c2, fz⟩ := (HH.out.below HB.out).pod hp
    have hc : w1.cell? ⟨g, 0, none⟩ = some (.slice (some ⟨b, 0, none⟩) l.length cap) := (HH.out.below HB.out).head.here rfl
    have hil := Tide.get_lt hp
    have i0 : (0 : Int) ≤ (i : Int) := by omega
    have i1 : (i : Int) < (l.length : Int) := by omega
    have HE := Lib.hid (show Tide.crashErr l id = 0 ∧ Tide.crashNum l id = p.load ∧ Tide.crashLst l id = l.eraseIdx i by
      unfold Tide.crashErr Tide.crashNum Tide.crashLst; rw [hf]; exact ⟨rfl, by simp only; unfold Tide.loadAt; rw [hp]; rfl, rfl⟩)
    clear hf hp c0 c1 fz
    go_wp2_with fail
    refine (fleGone S g _ l last most i _ (HH.out.below HB.out) hil).mono ?_
    rintro e w2 ⟨⟨x, rfl⟩, ⟨v2, h2⟩, ch2⟩
    have HR := Lib.hid (show FleOut 120 S w g (.tuple #[.int .i64 (Tide.crashNum l id), .int .i64 (Tide.crashErr l id)]) (Tide.crashLst l id) last most (.returned (.tuple #[.int .i64 p.load, .int .i64 0])) w2 from fle_out HB.out h2 ch2 (by rw [HE.out.1, HE.out.2.1]) HE.out.2.2.symm)
    clear h2 ch2 hc c2
    go_wp2_with fail
    go_ret2
    exact HR.out
set_option maxRecDepth 100000 in
set_option maxHeartbeats 3200000 in
theorem fleGive (S : Nat → Prop) (g : Nat) (v : Value) (l : List Tide.Pod) (last most : Int) (w : World) (h : FAt 120 S w g v l last most) (hm : most ≤ 1000) (hld : ∀ p ∈ l, 0 ≤ p.load) :
    Calls Tryz.prog 97 #[.pointer (some ⟨g, 0, none⟩)] w (FleOut 120 S w g (.tuple #[.int .i64 (Tide.giveNum l most), .int .i64 (Tide.giveErr l most)]) (Tide.giveLst l most) last most) := by
  have hs := h.small
  have HH := Lib.hid h; have HLd := Lib.hid hld
  clear h hld
  go_enter Tryz.func97, Tryz.ntmps97
  go_wp2_with fail
  refine (fleBest_lt S g v l last most 3 _ HH.out).mono ?_
  rintro e w1 ⟨rfl, hb1⟩
  have HB := Lib.hid hb1
  clear hb1
  cases hf : Tide.best 3 Tide.ltLoad l with
  | none =>
    rw [idx_none]
    have hg : Tide.giveAt l most = none := by unfold Tide.giveAt; rw [hf]
    have HE := Lib.hid (show Tide.giveErr l most = 4 ∧ Tide.giveNum l most = 0 ∧ Tide.giveLst l most = l by unfold Tide.giveErr Tide.giveNum Tide.giveLst; rw [hg]; exact ⟨rfl, rfl, rfl⟩)
    clear hf hg
    go_wp2_with fail
    go_quiet (fail)
    go_wp2_with fail
    go_ret2
    exact fle_out (fle_drewN HB.out _) (HH.out.below (fle_drewN HB.out _)) (Tide.Chg.refl _ _) (by rw [HE.out.1, HE.out.2.1] <;> rfl) HE.out.2.2.symm
  | some i =>
    rw [idx_some]
    obtain ⟨p, hp, _⟩ := Tide.best_at hf
    obtain ⟨b, cap, rfl, hS, _, _, hbl, c0, c1, c2, fz⟩ := (HH.out.below HB.out).pod hp
    have hc : w1.cell? ⟨g, 0, none⟩ = some (.slice (some ⟨b, 0, none⟩) l.length cap) := (HH.out.below HB.out).head.here rfl
    have hmo : w1.cell? ⟨g, 2, none⟩ = some (.int .i64 most) := (HH.out.below HB.out).head.here rfl
    have hil := Tide.get_lt hp
    have i0 : (0 : Int) ≤ (i : Int) := by omega
    have i1 : (i : Int) < (l.length : Int) := by omega
    have hla : Tide.loadAt l i = p.load := by unfold Tide.loadAt; rw [hp]; rfl
    have l0 := HLd.out p (List.mem_of_getElem? hp)
    have HP := Lib.hid hp
    have HFz := Lib.hid fz
    by_cases q : most ≤ p.load
    · have hg : Tide.giveAt l most = none := by unfold Tide.giveAt; rw [hf]; simp only; rw [hla, if_pos q]
      have HE := Lib.hid (show Tide.giveErr l most = 4 ∧ Tide.giveNum l most = 0 ∧ Tide.giveLst l most = l by unfold Tide.giveErr Tide.giveNum Tide.giveLst; rw [hg]; exact ⟨rfl, rfl, rfl⟩)
      clear hf hg hp hla fz c0 c1
      go_wp2_with fail
      go_quiet (fail)
      go_wp2_with fail
      go_ret2
      exact fle_out (fle_drewN HB.out _) (HH.out.below (fle_drewN HB.out _)) (Tide.Chg.refl _ _) (by rw [HE.out.1, HE.out.2.1] <;> rfl) HE.out.2.2.symm
    · have q' : p.load < most := by omega
      have hg : Tide.giveAt l most = some i := by unfold Tide.giveAt; rw [hf]; simp only; rw [hla, if_neg q]
      have HE := Lib.hid (show Tide.giveErr l most = 0 ∧ Tide.giveNum l most = p.id ∧ Tide.giveLst l most = l.set i { p with load := p.load + 1 } by unfold Tide.giveErr Tide.giveNum Tide.giveLst; rw [hg]; simp only [HP.out]; exact ⟨trivial, rfl, trivial⟩)
      clear hf hg hp hla fz c1 q
      go_wp2_with fail
      go_quiet (fail)
      have f2 := HFz.out (i * 3 + 2)
      have HW := Lib.hid (HH.out.below (fle_drewN HB.out nq))
      obtain ⟨W, hW⟩ : ∃ W, Hid (w1.drewN nq = W) := ⟨_, Lib.hid rfl⟩
      have HBW := Lib.hid (fle_drewN HB.out nq)
      rw [hW.out] at HW HBW
      have p1 := HW.out.put (by decide) (k := i) (j := 2) (r' := { p with load := p.load + 1 }) (u := .int .i64 (p.load + 1)) HP.out (by decide) rfl
      have P1 := Lib.hid p1
      clear p1
      rw [hW.out]
      have hcW : W.cell? ⟨g, 0, none⟩ = some (.slice (some ⟨b, 0, none⟩) l.length cap) := HW.out.head.here rfl
      obtain ⟨b', cap', e, _, _, _, _, _, _, d2, fz⟩ := HW.out.pod HP.out
      cases e
      have f2W := fz (i * 3 + 2)
      have hcP : (W.setCell ⟨b, i * 3 + 2, none⟩ (.int .i64 (p.load + 1))).cell? ⟨g, 0, none⟩ = some (.slice (some ⟨b, 0, none⟩) l.length cap) := P1.out.1.head.here rfl
      obtain ⟨b', cap', e, _, _, _, _, e0, _, _, _⟩ := P1.out.1.pod (List.getElem?_set_self hil)
      rw [List.length_set] at e
      cases e
      have HE0 := Lib.hid (fle_out HBW.out P1.out.1 P1.out.2 (x := .tuple #[.int .i64 (Tide.giveNum l most), .int .i64 (Tide.giveErr l most)]) (l := Tide.giveLst l most) (x' := .tuple #[.int .i64 p.id, .int .i64 0]) (by rw [HE.out.1, HE.out.2.1]) HE.out.2.2.symm)
      clear hc hmo c0 c2 f2 fz hW
      go_wp2_with fail
      go_ret2
      exact HE0.out
set_option maxRecDepth 100000 in
set_option maxHeartbeats 3200000 in
theorem fleDone (S : Nat → Prop) (g : Nat) (v : Value) (l : List Tide.Pod) (last most id : Int) (w : World) (h : FAt 120 S w g v l last most) (hld : ∀ p ∈ l, 0 ≤ p.load ∧ p.load ≤ 1000) :
    Calls Tryz.prog 76 #[.pointer (some ⟨g, 0, none⟩), .int .i64 id] w (FleOut 120 S w g (.int .i64 (Tide.podDoneErr l id)) (Tide.podDoneLst l id) last most) := by
  have hs := h.small
  have HH := Lib.hid h; have HLd := Lib.hid hld
  clear h hld
  go_enter Tryz.func76, Tryz.ntmps76
  go_wp2_with fail
  refine (fleFind S g v l last most id _ HH.out).mono ?_
  rintro e w1 ⟨rfl, hb1⟩
  have HB := Lib.hid hb1
  clear hb1
  cases hf : Tide.findP l id with
  | none =>
    rw [idx_none]
    have HR := Lib.hid (show FleOut 120 S w g (.int .i64 (Tide.podDoneErr l id)) (Tide.podDoneLst l id) last most (.returned (.int .i64 4)) w1 from fle_out HB.out (HH.out.below HB.out) (Tide.Chg.refl _ _) (by unfold Tide.podDoneErr; rw [hf]) (by unfold Tide.podDoneLst; rw [hf]))
    clear hf
    go_wp2_with fail
    go_ret
    exact HR.out
  | some i =>
    rw [idx_some]
    obtain ⟨p, hp, _⟩ := Tide.findP_some hf
    obtain ⟨b, cap, rfl, hS, _, _, hbl, c0, c1, c2, fz⟩ := (HH.out.below HB.out).pod hp
    have hc : w1.cell? ⟨g, 0, none⟩ = some (.slice (some ⟨b, 0, none⟩) l.length cap) := (HH.out.below HB.out).head.here rfl
    have hil := Tide.get_lt hp
    have i0 : (0 : Int) ≤ (i : Int) := by omega
    have i1 : (i : Int) < (l.length : Int) := by omega
    have hla : Tide.loadAt l i = p.load := by unfold Tide.loadAt; rw [hp]; rfl
    have l0 := (HLd.out p (List.mem_of_getElem? hp)).1
    have l1 := (HLd.out p (List.mem_of_getElem? hp)).2
    have f2 := fz (i * 3 + 2)
    have HP := Lib.hid hp
    by_cases q : p.load = 0
    · have HR := Lib.hid (show FleOut 120 S w g (.int .i64 (Tide.podDoneErr l id)) (Tide.podDoneLst l id) last most (.returned (.int .i64 7)) w1 from fle_out HB.out (HH.out.below HB.out) (Tide.Chg.refl _ _) (by unfold Tide.podDoneErr; rw [hf]; simp only; rw [hla, if_pos q]) (by unfold Tide.podDoneLst; rw [hf]; simp only [hp]; rw [if_pos q]))
      rw [q] at c2
      clear hf hp hla c0 c1 fz f2 q l0 l1
      go_wp2_with fail
      go_ret
      exact HR.out
    · have q2 : (p.load == 0) = false := by simp only [beq_eq_false_iff_ne]; exact q
      have q3 : 1 ≤ p.load := by omega
      have p1 := (HH.out.below HB.out).put (by decide) (k := i) (j := 2) (r' := { p with load := p.load - 1 }) (u := .int .i64 (p.load - 1)) hp (by decide) rfl
      have P1 := Lib.hid p1
      have HErr := Lib.hid (show Tide.podDoneErr l id = 0 by unfold Tide.podDoneErr; rw [hf]; simp only; rw [hla, if_neg q])
      have HLst := Lib.hid (show Tide.podDoneLst l id = if p.state = 4 ∧ p.load - 1 = 0 then l.eraseIdx i else l.set i { p with load := p.load - 1 } by unfold Tide.podDoneLst; rw [hf]; simp only [hp]; rw [if_neg q])
      have hcP : (w1.setCell ⟨b, i * 3 + 2, none⟩ (.int .i64 (p.load - 1))).cell? ⟨g, 0, none⟩ = some (.slice (some ⟨b, 0, none⟩) l.length cap) := p1.1.head.here rfl
      obtain ⟨b', cap', e, _, _, _, _, e0, e1, e2, _⟩ := p1.1.pod (List.getElem?_set_self hil)
      rw [List.length_set] at e
      cases e
      have HE1 := Lib.hid e1; have HE2 := Lib.hid e2
      clear p1 hf hp hla c0 c1 fz q e0 e1 e2 hcP
      go_upto_region 7 with fail
      have hcP : (w1.setCell ⟨b, i * 3 + 2, none⟩ (.int .i64 (p.load - 1))).cell? ⟨g, 0, none⟩ = some (.slice (some ⟨b, 0, none⟩) l.length cap) := P1.out.1.head.here rfl
      have e1 := HE1.out; have e2 := HE2.out
      have q4 : 0 ≤ p.load - 1 := by omega
      clear f2 c2 q2 q3 l0 l1 hc
      obtain ⟨W, hW⟩ : ∃ W, Hid (w1.setCell ⟨b, i * 3 + 2, none⟩ (.int .i64 (p.load - 1)) = W) := ⟨_, Lib.hid rfl⟩
      rw [hW.out] at P1 hcP e1 e2 ⊢
      clear hW HE1 HE2
      generalize p.load - 1 = pl at P1 HLst e2 q4 ⊢
      by_cases d : p.state = 4
      · by_cases d2 : pl = 0
        · have HR0 := Lib.hid (show Tide.podDoneLst l id = (l.set i ⟨p.id, p.state, pl⟩).eraseIdx i by rw [HLst.out, if_pos ⟨d, d2⟩, List.eraseIdx_set_eq])
          rw [d] at e1
          rw [d2] at e2
          clear d d2 q4
          go_wp2_with fail
          refine (fleGone S g _ _ last most i _ P1.out.1 (by rw [List.length_set]; exact hil)).mono ?_
          rintro e w2 ⟨⟨x, rfl⟩, ⟨v2, h2⟩, ch2⟩
          have HR := Lib.hid (show FleOut 120 S w g (.int .i64 (Tide.podDoneErr l id)) (Tide.podDoneLst l id) last most (.returned (.int .i64 0)) w2 from fle_out HB.out h2 (P1.out.2.trans ch2) (by rw [HErr.out]) HR0.out.symm)
          clear h2 ch2 hcP e1 e2
          go_wp2_with fail
          go_ret
          exact HR.out
        · have d3 : (pl == 0) = false := by simp only [beq_eq_false_iff_ne]; exact d2
          have HR := Lib.hid (show FleOut 120 S w g (.int .i64 (Tide.podDoneErr l id)) (Tide.podDoneLst l id) last most (.returned (.int .i64 0)) W from fle_out HB.out P1.out.1 P1.out.2 (by rw [HErr.out]) (by rw [HLst.out, if_neg (fun c => d2 c.2)]))
          rw [d] at e1
          clear d d2
          go_wp2_with fail
          go_ret
          exact HR.out
      · have d3 : (p.state == 4) = false := by simp only [beq_eq_false_iff_ne]; exact d
        have HR := Lib.hid (show FleOut 120 S w g (.int .i64 (Tide.podDoneErr l id)) (Tide.podDoneLst l id) last most (.returned (.int .i64 0)) W from fle_out HB.out P1.out.1 P1.out.2 (by rw [HErr.out]) (by rw [HLst.out, if_neg (fun c => d c.1)]))
        clear d
        go_wp2_with fail
        go_ret
        exact HR.out
def mostOf (n : Int) : Int := min (max n 1) 100
def FleNewPost (T : TypeId) (w : World) (most : Int) (e : Ending) (w' : World) : Prop := ∃ g, e = .returned (.pointer (some ⟨g, 0, none⟩)) ∧ FAt T (Tide.Plus (fun _ => False) w w') w' g (.slice none 0 0) [] 0 most ∧ Below w.heap.size w w'
theorem fnew_made (T : TypeId) (w : World) (most : Int) : FleNewPost T w most (.returned (.pointer (some ⟨w.heap.size, 0, none⟩))) (w.alloc (.cells #[.slice none 0 0, .int .i64 0, .int .i64 most] T)) :=
  ⟨_, rfl, ⟨Tide.At.made w _ _, Tide.OwnRow.nil _ _ _ _, .inr ⟨Nat.le_refl _, by simp⟩, by simp, fun b hb => by rcases hb with hb | hb; exact hb.elim; exact hb.2⟩, (Below.refl _ _).alloc (Nat.le_refl _) _⟩
set_option maxRecDepth 100000 in
set_option maxHeartbeats 1600000 in
theorem fleNew (n : Int) (w : World) : Calls Tryz.prog 28 #[.int .i64 n] w (FleNewPost 120 w (mostOf n)) := by
  have HF := Lib.hid (fnew_made 120 w (mostOf n))
  by_cases h1 : n < 1
  · have HE := Lib.hid (show mostOf n = 1 by unfold mostOf; omega)
    rw [HE.out] at HF
    rw [HE.out]
    have h2 : n ≤ 1 := by omega
    go_enter Tryz.func28, Tryz.ntmps28
    go_wp2_with fail
    go_ret
    exact HF.out
  · by_cases h2 : 100 < n
    · have HE := Lib.hid (show mostOf n = 100 by unfold mostOf; omega)
      rw [HE.out] at HF
      rw [HE.out]
      have h3 : 1 < n := by omega
      clear h1
      go_enter Tryz.func28, Tryz.ntmps28
      go_wp2_with fail
      go_ret
      exact HF.out
    · have HE := Lib.hid (show mostOf n = n by unfold mostOf; omega)
      rw [HE.out] at HF
      rw [HE.out]
      have h3 : 1 ≤ n := by omega
      have h4 : n ≤ 100 := by omega
      clear h1 h2
      go_enter Tryz.func28, Tryz.ntmps28
      go_wp2_with fail
      go_ret
      exact HF.out
open Go.RowKit
theorem info_req : (Tryz.prog.info? 45).map (fun i => (i.zero, i.size, i.bytes)) = some (some (.agg #[.int .i64 0, .int .i64 0, .int .i64 0, .int .i64 0, .int .i64 0]), 5, 40) := by kernel_rfl
structure BAt (T : TypeId) (S : Nat → Prop) (w : World) (g : Nat) (v : Value) (l : List Tide.Req) : Prop where
  head : Tide.At w g T #[v]
  row : Tide.OwnRow S w 45 5 v l.length (l.flatMap Tide.Req.enc)
  own : S g
  small : l.length ≤ 200
  lim : ∀ b, S b → b < w.heap.size
theorem BAt.chg {T : TypeId} {S C : Nat → Prop} {w w' : World} {g : Nat} {v : Value} {l : List Tide.Req} (h : BAt T S w g v l) (hc : Tide.Chg C w w') (hs : ∀ b, S b → ¬ C b) : BAt T S w' g v l :=
  ⟨h.head.chg hc (hs g h.own), h.row.chg hc hs, h.own, h.small, fun b hb => Nat.lt_of_lt_of_le (h.lim b hb) hc.size⟩
theorem BAt.below {T : TypeId} {S : Nat → Prop} {w w' : World} {g : Nat} {v : Value} {l : List Tide.Req} (h : BAt T S w g v l) (hb : Below w.heap.size w w') : BAt T S w' g v l :=
  h.chg (C := fun _ => False) (Tide.Chg.of_below hb (Nat.le_refl _)) (fun _ _ h => h)
theorem BAt.mono {T : TypeId} {S S' : Nat → Prop} {w : World} {g : Nat} {v : Value} {l : List Tide.Req} (h : BAt T S w g v l) (hs : ∀ b, b < w.heap.size → S b → S' b) (hl : ∀ b, S' b → b < w.heap.size) : BAt T S' w g v l :=
  ⟨h.head, h.row.mono hs, hs g h.head.inside h.own, h.small, hl⟩
theorem BAt.up {T : TypeId} {S : Nat → Prop} {w0 w : World} {g : Nat} {v : Value} {l : List Tide.Req} (h : BAt T S w g v l) : BAt T (Tide.Plus S w0 w) w g v l :=
  h.mono (fun _ _ hb => .inl hb) (fun b hb => by rcases hb with hb | hb; exact h.lim b hb; exact hb.2)
theorem BAt.alloc {T : TypeId} {S : Nat → Prop} {w : World} {g : Nat} {v : Value} {l : List Tide.Req} (h : BAt T S w g v l) (o : Obj) : BAt T S (w.alloc o) g v l :=
  ⟨h.head.alloc o, h.row.alloc o, h.own, h.small, fun b hb => by simp; have := h.lim b hb; omega⟩
theorem BAt.drew {T : TypeId} {S : Nat → Prop} {w : World} {g : Nat} {v : Value} {l : List Tide.Req} (h : BAt T S w g v l) : BAt T S w.drew g v l := ⟨h.head.drew, h.row.drew, h.own, h.small, h.lim⟩
theorem BAt.req {T : TypeId} {S : Nat → Prop} {w : World} {g : Nat} {v : Value} {l : List Tide.Req} (h : BAt T S w g v l) {k : Nat} {r : Tide.Req} (hk : l[k]? = some r) :
    ∃ b cap, v = .slice (some ⟨b, 0, none⟩) l.length cap ∧ S b ∧ l.length ≤ cap ∧ cap ≤ maxLen ∧ b < w.heap.size ∧ w.cell? ⟨b, k * 5, none⟩ = some (.int .i64 r.id) ∧ w.cell? ⟨b, k * 5 + 1, none⟩ = some (.int .i64 r.source) ∧ w.cell? ⟨b, k * 5 + 2, none⟩ = some (.int .i64 r.till) ∧
      w.cell? ⟨b, k * 5 + 3, none⟩ = some (.int .i64 r.fate) ∧ w.cell? ⟨b, k * 5 + 4, none⟩ = some (.int .i64 r.pod) ∧ (∀ i, w.frozen? ⟨b, i, none⟩ = false) := by
  obtain ⟨b, cap, e, hS, h1, h2, h3⟩ := h.row.form (by have := Tide.get_lt hk; omega)
  exact ⟨b, cap, e, hS, h1, h2, h3.inside, h3.cell (Tide.flat_get (j := 0) Tide.Req.enc_length hk rfl), h3.cell (Tide.flat_get (j := 1) Tide.Req.enc_length hk rfl), h3.cell (Tide.flat_get (j := 2) Tide.Req.enc_length hk rfl), h3.cell (Tide.flat_get (j := 3) Tide.Req.enc_length hk rfl), h3.cell (Tide.flat_get (j := 4) Tide.Req.enc_length hk rfl), h3.soft⟩
theorem BAt.apart {T : TypeId} {S : Nat → Prop} {w : World} {g : Nat} {v : Value} {l : List Tide.Req} (h : BAt T S w g v l) (hT : T ≠ 45) : ∀ b, v.ownBlock = some b → b ≠ g := h.row.apartAt h.head (Ne.symm hT)
theorem BAt.put {T : TypeId} {S : Nat → Prop} {w : World} {g b cap n : Nat} {l : List Tide.Req} (h : BAt T S w g (.slice (some ⟨b, 0, none⟩) n cap) l) (hT : T ≠ 45) {k j : Nat} {r r' : Tide.Req} {u : Value} (hk : l[k]? = some r) (hj : j < 5) (hu : r.enc.set j u = r'.enc) :
    BAt T S (w.setCell ⟨b, k * 5 + j, none⟩ u) g (.slice (some ⟨b, 0, none⟩) n cap) (l.set k r') ∧ Tide.Chg S w (w.setCell ⟨b, k * 5 + j, none⟩ u) := by
  have hkl := Tide.get_lt hk
  obtain ⟨b', cap', e, hS, _⟩ := h.row.form (by omega)
  cases e
  have hgb : b ≠ g := h.apart hT b rfl
  have p1 := h.row.put (Tide.flat_lt Tide.Req.enc_length hkl hj) u
  rw [Tide.flat_set Tide.Req.enc_length hk hj hu] at p1
  refine ⟨⟨h.head.other (p := ⟨b, k * 5 + j, none⟩) (Ne.symm hgb) _, ?_, h.own, by rw [List.length_set]; exact h.small, fun c hc => by rw [Tide.size_put]; exact h.lim c hc⟩, (Tide.Chg.refl S w).put (p := ⟨b, k * 5 + j, none⟩) (.inl hS) _⟩
  rw [List.length_set]; exact p1
def ReadPost (w : World) (v : Value) (e : Ending) (w' : World) : Prop := e = .returned v ∧ Below w.heap.size w w'
set_option maxRecDepth 100000 in
set_option maxHeartbeats 1600000 in
theorem bufCount (S : Nat → Prop) (g : Nat) (v : Value) (l : List Tide.Req) (src fate : Int) (w : World) (h : BAt 123 S w g v l) :
    Calls Tryz.prog 74 #[.pointer (some ⟨g, 0, none⟩), .int .i64 src, .int .i64 fate] w (ReadPost w (.int .i64 (Tide.countF src fate l))) := by
  obtain ⟨A, cap, rfl, _, _, _⟩ := h.row.slice
  have hc : w.cell? ⟨g, 0, none⟩ = some (.slice A l.length cap) := h.head.here rfl
  have hs := h.small
  have HH := Lib.hid h
  clear h
  go_enter Tryz.func74, Tryz.ntmps74
  go_wp2_with fail
  go_loopw [7, 15] (fun n i wr => ∃ k : Nat, k ≤ l.length ∧ i = .int .i64 k ∧ n = .int .i64 (((l.take k).countP (Tide.hasF src fate) : Nat) : Int) ∧ Below w.heap.size w wr) (fun _ i _ => l.length - (intOf i).toNat)
  case atStart => exact ⟨0, by omega, rfl, by simp, Below.refl _ _⟩
  case round =>
    clear hc
    obtain ⟨k, hk, rfl, rfl, hb⟩ := hrel
    by_cases hlt : k < l.length
    · obtain ⟨r, hr⟩ := Tide.get_some l hlt
      obtain ⟨b, cap', e, hS, _, _, hbl, c0, c1, c2, c3, c4, _⟩ := (HH.out.below hb).req hr
      cases e
      have i0 : (0 : Int) ≤ (k : Int) := by omega
      have i1 : (k : Int) < (l.length : Int) := by omega
      have HC := Lib.hid (Tide.count_snoc (p := Tide.hasF src fate) hr)
      have hle : (l.take k).countP (Tide.hasF src fate) ≤ 200 := Nat.le_trans List.countP_le_length (by rw [List.length_take]; omega)
      generalize (l.take k).countP (Tide.hasF src fate) = N at HC hle ⊢
      have hle' : (N : Int) ≤ 200 := by omega
      have HB := Lib.hid (hb.alloc hb.size (.cells #[.int .i64 r.id, .int .i64 r.source, .int .i64 r.till, .int .i64 r.fate, .int .i64 r.pod] 45))
      clear hr hb hle
      cases hf : (r.fate == fate)
      · have HT := Lib.hid (show Tide.hasF src fate r = false by unfold Tide.hasF; rw [hf]; rfl)
        go_wp2_with fail
        go_roundw
        case rel => exact ⟨k + 1, by omega, by go_num, by rw [HC.out, HT.out]; go_num, HB.out⟩
        case measure => simp [intOf]; omega
      · by_cases hsrc : src < 0
        · have HT := Lib.hid (show Tide.hasF src fate r = true by unfold Tide.hasF; rw [hf]; simp [hsrc])
          go_wp2_with fail
          go_roundw
          case rel => exact ⟨k + 1, by omega, by go_num, by rw [HC.out, HT.out]; go_num, HB.out⟩
          case measure => simp [intOf]; omega
        · have hsrc' : 0 ≤ src := by omega
          cases hg : (r.source == src)
          · have HT := Lib.hid (show Tide.hasF src fate r = false by unfold Tide.hasF; rw [hf, hg]; simp [hsrc])
            clear hsrc
            go_wp2_with fail
            go_roundw
            case rel => exact ⟨k + 1, by omega, by go_num, by rw [HC.out, HT.out]; go_num, HB.out⟩
            case measure => simp [intOf]; omega
          · have HT := Lib.hid (show Tide.hasF src fate r = true by unfold Tide.hasF; rw [hf, hg]; simp)
            clear hsrc
            go_wp2_with fail
            go_roundw
            case rel => exact ⟨k + 1, by omega, by go_num, by rw [HC.out, HT.out]; go_num, HB.out⟩
            case measure => simp [intOf]; omega
    · have hke : k = l.length := by omega
      subst hke
      have HB := Lib.hid hb
      clear hb
      rw [List.take_length]
      go_wp2_with fail
      go_ret
      exact ⟨rfl, HB.out⟩
open Go.RowKit
theorem buf_cells_in {w : World} {cs : Array Value} {T : TypeId} {H : Nat} (hH : w.heap.size = H) : ∀ (j : Nat) (u : Value), cs.toList[j]? = some u → (w.alloc (.cells cs T)).cell? ((⟨H, 0, none⟩ : Addr).add j) = some u := by
  subst hH; exact Tide.new_cells w cs T
theorem BAt.app {T : TypeId} {S : Nat → Prop} {w w1 : World} {g b cap : Nat} {l : List Tide.Req} {v : Value} {r : Tide.Req} {o : Obj} (h : BAt T S w g v l) (hT : T ≠ 45) (hl : l.length < 200)
    (h1 : w1.ownsRow 0 45 5 (.slice (some ⟨b, 0, none⟩) (l.length + 1) cap) (l.length + 1) (l.flatMap Tide.Req.enc ++ r.enc)) (hg : (w.alloc o).grownBy w1 v.ownBlock) (ho : v.ownBlock = some b ∨ b = w.heap.size + 1) (hlt : b < w1.heap.size) :
    (w1.cell? ⟨g, 0, none⟩ = some v ∧ w1.frozen? ⟨g, 0, none⟩ = false) ∧
    BAt T (Tide.Plus S w (w1.setCell ⟨g, 0, none⟩ (.slice (some ⟨b, 0, none⟩) (l.length + 1) cap))) (w1.setCell ⟨g, 0, none⟩ (.slice (some ⟨b, 0, none⟩) (l.length + 1) cap)) g (.slice (some ⟨b, 0, none⟩) (l.length + 1) cap) (l ++ [r]) ∧
    Tide.Chg S w (w1.setCell ⟨g, 0, none⟩ (.slice (some ⟨b, 0, none⟩) (l.length + 1) cap)) := by
  have z : (w.alloc o).heap.size = w.heap.size + 1 := by simp
  obtain ⟨r1, r2⟩ := (h.row.alloc o).app h1 hg (ho.imp id (fun e => by rw [e, z])) hlt
  have hA := (h.head.alloc o).grown hg (fun e => h.row.apartAt h.head (Ne.symm hT) g e rfl)
  have z2 := r2.size
  have e1 : (l ++ [r]).length = l.length + 1 := by simp
  have e2 : (l ++ [r]).flatMap Tide.Req.enc = l.flatMap Tide.Req.enc ++ r.enc := by simp
  refine ⟨⟨hA.here rfl, hA.soft 0⟩, ⟨hA.put 0 _, ?_, .inl h.own, by rw [e1]; omega, fun c hb => ?_⟩, ((Tide.Chg.refl S w).alloc o).trans (r2.put (.inl h.own) _)⟩
  · rw [e1, e2]
    refine (r1.mono fun c hc hb => ?_).aside (p := ⟨g, 0, none⟩) (r1.apartAt hA (Ne.symm hT)) _
    rcases hb with hb | hb
    · exact .inl hb
    · exact .inr ⟨by omega, by rw [Tide.size_put]; exact hc⟩
  · rcases hb with hb | hb
    · have := h.lim c hb
      rw [Tide.size_put]; omega
    · exact hb.2
def AskPost (T : TypeId) (S : Nat → Prop) (w : World) (g : Nat) (l : List Tide.Req) (now src ticks : Int) (e : Ending) (w' : World) : Prop :=
  e = .returned (.tuple #[.int .i64 (Tide.askNum l now src ticks), .int .i64 (Tide.askErr l now src ticks)]) ∧ (∃ v, BAt T (Tide.Plus S w w') w' g v (Tide.askLst l now src ticks)) ∧ Tide.Chg S w w'
theorem ask_no {T : TypeId} {S : Nat → Prop} {w w' : World} {g : Nat} {v : Value} {l : List Tide.Req} {now src ticks x : Int} (h : BAt T S w g v l) (hb : Below w.heap.size w w') (hx : x ≠ 0) (he : Tide.askErr l now src ticks = x) : AskPost T S w g l now src ticks (.returned (.tuple #[.int .i64 0, .int .i64 x])) w' := by
  refine ⟨by unfold Tide.askNum; rw [he, if_neg hx], ⟨v, ?_⟩, Tide.Chg.of_below hb (Nat.le_refl _)⟩
  unfold Tide.askLst; rw [he, if_neg hx]
  exact (h.below hb).up
theorem ask_yes {T : TypeId} {S : Nat → Prop} {w w1 w' : World} {g : Nat} {v : Value} {l : List Tide.Req} {now src ticks : Int} (hb : Below w.heap.size w w1) (h : BAt T (Tide.Plus S w1 w') w' g v (l ++ [⟨l.length + 1, src, now + ticks, 1, 0⟩])) (hc : Tide.Chg S w1 w') (hl : ∀ b, S b → b < w.heap.size) (he : Tide.askErr l now src ticks = 0) : AskPost T S w g l now src ticks (.returned (.tuple #[.int .i64 (l.length + 1), .int .i64 0])) w' := by
  have z1 := hb.size; have z2 := hc.size
  refine ⟨by unfold Tide.askNum; rw [he, if_pos rfl], ⟨v, ?_⟩, (Tide.Chg.of_below hb (Nat.le_refl _)).trans hc⟩
  unfold Tide.askLst; rw [he, if_pos rfl]
  refine h.mono (fun c hc hb => ?_) (fun c hb => ?_)
  · rcases hb with hb | hb
    · exact .inl hb
    · exact .inr ⟨by omega, hb.2⟩
  · rcases hb with hb | hb
    · have := hl c hb; omega
    · exact hb.2
set_option maxRecDepth 100000 in
set_option maxHeartbeats 6400000 in
theorem bufAsk (S : Nat → Prop) (g : Nat) (v : Value) (l : List Tide.Req) (now src ticks : Int) (w : World) (h : BAt 123 S w g v l) :
    Calls Tryz.prog 42 #[.pointer (some ⟨g, 0, none⟩), .int .i64 now, .int .i64 src, .int .i64 ticks] w (AskPost 123 S w g l now src ticks) := by
  obtain ⟨A, cap0, rfl, _, _, _⟩ := h.row.slice
  have hs := h.small
  have HH := Lib.hid h
  clear h
  by_cases q1 : now < 0
  · have HF := Lib.hid (ask_no (now := now) (src := src) (ticks := ticks) HH.out (Below.refl _ _) (x := 1) (by decide) (by unfold Tide.askErr; rw [if_pos (by omega)]))
    go_enter Tryz.func42, Tryz.ntmps42
    go_wp2_with fail
    go_ret2
    exact HF.out
  by_cases q2 : 1099511627776 < now
  · have HF := Lib.hid (ask_no (now := now) (src := src) (ticks := ticks) HH.out (Below.refl _ _) (x := 1) (by decide) (by unfold Tide.askErr; rw [if_pos (by omega)]))
    have q1' : 0 ≤ now := by omega
    clear q1
    go_enter Tryz.func42, Tryz.ntmps42
    go_wp2_with fail
    go_ret2
    exact HF.out
  have q1' : 0 ≤ now := by omega
  have q2' : now ≤ 1099511627776 := by omega
  clear q1 q2
  by_cases q3 : ticks < 1
  · have HF := Lib.hid (ask_no (now := now) (src := src) (ticks := ticks) HH.out (Below.refl _ _) (x := 1) (by decide) (by unfold Tide.askErr; rw [if_pos (by omega)]))
    go_enter Tryz.func42, Tryz.ntmps42
    go_wp2_with fail
    go_ret2
    exact HF.out
  by_cases q4 : 100000 < ticks
  · have HF := Lib.hid (ask_no (now := now) (src := src) (ticks := ticks) HH.out (Below.refl _ _) (x := 1) (by decide) (by unfold Tide.askErr; rw [if_pos (by omega)]))
    have q3' : 1 ≤ ticks := by omega
    clear q3
    go_enter Tryz.func42, Tryz.ntmps42
    go_wp2_with fail
    go_ret2
    exact HF.out
  have q3' : 1 ≤ ticks := by omega
  have q4' : ticks ≤ 100000 := by omega
  clear q3 q4
  by_cases q5 : src < 0
  · have HF := Lib.hid (ask_no (now := now) (src := src) (ticks := ticks) HH.out (Below.refl _ _) (x := 4) (by decide) (by unfold Tide.askErr; rw [if_neg (by omega), if_pos (by omega)]))
    go_enter Tryz.func42, Tryz.ntmps42
    go_wp2_with fail
    go_ret2
    exact HF.out
  have q5' : 0 ≤ src := by omega
  clear q5
  by_cases q6 : 6 ≤ src
  · have HF := Lib.hid (ask_no (now := now) (src := src) (ticks := ticks) HH.out (Below.refl _ _) (x := 4) (by decide) (by unfold Tide.askErr; rw [if_neg (by omega), if_pos (by omega)]))
    go_enter Tryz.func42, Tryz.ntmps42
    go_wp2_with fail
    go_ret2
    exact HF.out
  have q6' : src < 6 := by omega
  clear q6
  have HE := Lib.hid (show Tide.askErr l now src ticks = if Tide.countF src 1 l = 20 ∨ Tide.countF (-1) 1 l = 60 ∨ l.length = 200 then 6 else 0 from by unfold Tide.askErr; rw [if_neg (by omega), if_neg (by omega)])
  obtain ⟨i0, hi, hz0, hz1, hz2⟩ := info_parts info_req
  go_enter Tryz.func42, Tryz.ntmps42
  go_wp2_with fail
  refine (bufCount S g _ l src 1 _ HH.out).mono ?_
  rintro e w1 ⟨rfl, hb1⟩
  have HB1 := Lib.hid hb1
  have HH1 := Lib.hid (HH.out.below hb1)
  clear hb1
  generalize Tide.countF src 1 l = c1 at HE ⊢
  by_cases k1 : c1 = 20
  · have HF := Lib.hid (ask_no (now := now) (src := src) (ticks := ticks) HH.out HB1.out (x := 6) (by decide) (by rw [HE.out, if_pos (.inl k1)]))
    subst k1
    go_wp2_with fail
    go_ret2
    exact HF.out
  go_wp2_with fail
  refine (bufCount S g _ l (-1) 1 _ HH1.out).mono ?_
  rintro e w2 ⟨rfl, hb2⟩
  have HB2 := Lib.hid (HB1.out.trans (hb2.mono HB1.out.size))
  have HH2 := Lib.hid (HH1.out.below hb2)
  clear hb2
  generalize Tide.countF (-1) 1 l = c2 at HE ⊢
  by_cases k2 : c2 = 60
  · have HF := Lib.hid (ask_no (now := now) (src := src) (ticks := ticks) HH.out HB2.out (x := 6) (by decide) (by rw [HE.out, if_pos (.inr (.inl k2))]))
    subst k2
    clear k1
    go_wp2_with fail
    go_ret2
    exact HF.out
  have hc : w2.cell? ⟨g, 0, none⟩ = some (.slice A l.length cap0) := HH2.out.head.here rfl
  by_cases k3 : (l.length : Int) = 200
  · have HF := Lib.hid (ask_no (now := now) (src := src) (ticks := ticks) HH.out HB2.out (x := 6) (by decide) (by rw [HE.out, if_pos (.inr (.inr (by omega)))]))
    clear k1
    go_wp2_with fail
    go_ret2
    exact HF.out
  have HE0 := Lib.hid (show Tide.askErr l now src ticks = 0 by rw [HE.out, if_neg (by omega)])
  have hs' : (l.length : Int) < 200 := by omega
  have HL := Lib.hid (show l.length < 200 by omega)
  have hm3 := Lib.hid (show l.length + 1 ≤ maxLen by simp only [maxLen]; omega)
  have hm4 := Lib.hid (show (l.length + 1) * 40 ≤ 140737488355328 by omega)
  have k3b : ((l.length : Int) == 200) = false := by simp only [beq_eq_false_iff_ne]; exact k3
  clear k1 HE k3
  go_wp2_with (at_builtin; refine wpList_append_lies _ (by rfl) (.tmp 57) (.tmp 64) 43 (by rfl) 0 45 i0 (.agg #[.int .i64 0, .int .i64 0, .int .i64 0, .int .i64 0, .int .i64 0]) 5 40 Tryz.underlying43 hi hz0 hz1 hz2 rfl (by decide) (.slice A l.length cap0) _ _ rfl (HH2.out.row.alloc _).owns ⟨w2.heap.size, 0, none⟩ 1 1 (Tide.Req.enc ⟨l.length + 1, src, now + ticks, 1, 0⟩) rfl rfl (buf_cells_in rfl) (by simp [Value.oneCell', Tide.Req.enc]) (by decide) hm3.out hm4.out (Nat.zero_le _) _ rfl ?_)
  intro b cap w3 hown hg ho hlt
  obtain ⟨⟨d9, f9⟩, hA, hC⟩ := HH2.out.app (by decide) HL.out hown hg ho hlt
  have HF := Lib.hid (ask_yes HB2.out hA hC (fun b hb => HH.out.lim b hb) HE0.out)
  clear hown hg ho hlt hA hC hc
  go_wp2_with fail
  go_ret2
  exact HF.out
end Go.Proofs.YtidonhndeohdlaaGreatDoor
