/- Parts of this claim: FleG, FleH, BufC, BufD. -/
import Derived.Test.YtidonhndeohdlaaGreatWl04
import Derived.Test.YtidonhndeohdlaaGreatWl03
set_option linter.unusedVariables false
set_option linter.unusedSimpArgs false
set_option maxRecDepth 100000
set_option maxHeartbeats 12800000
namespace Go.Proofs.YtidonhndeohdlaaGreat
open Go.RowKit
theorem fle_alloc_size (w : World) (o : Obj) : (w.alloc o).drew.heap.size = w.drew.heap.size + 1 := by
 show (w.alloc o).heap.size = w.heap.size + 1
 simp
section
variable {T : TypeId} {S : Nat → Prop} {w w1 : World} {g b cap : Nat} {l : List G.Pod} {v : Value} {last most : Int}
theorem FAt.tick (h : FAt T S w g v l last most) (hT : T ≠ 101) (x : Int) : FAt T S (w.setCell ⟨g, 1, none⟩ (.int .i64 x)) g v l x most ∧ G.Chg S w (w.setCell ⟨g, 1, none⟩ (.int .i64 x)) :=
 ⟨⟨h.head.put 1 _, h.row.aside (p := ⟨g, 1, none⟩) (h.apart hT) _, h.own, h.small, fun c hc => by rw [G.size_put]; exact h.lim c hc⟩, (G.Chg.refl S w).put (p := ⟨g, 1, none⟩) (.inl h.own) _⟩
theorem FAt.app {r : G.Pod} {o : Obj} (h : FAt T S w g v l last most) (hT : T ≠ 101) (hl : l.length < 10000000)
  (h1 : w1.ownsRow 0 101 3 (.slice (some ⟨b, 0, none⟩) (l.length + 1) cap) (l.length + 1) (l.flatMap G.Pod.enc ++ r.enc)) (hg : (w.alloc o).grownBy w1 v.ownBlock) (ho : v.ownBlock = some b ∨ b = w.heap.size + 1) (hlt : b < w1.heap.size) :
  (w1.cell? ⟨g, 0, none⟩ = some v ∧ w1.frozen? ⟨g, 0, none⟩ = false) ∧
  FAt T (G.Plus S w (w1.setCell ⟨g, 0, none⟩ (.slice (some ⟨b, 0, none⟩) (l.length + 1) cap))) (w1.setCell ⟨g, 0, none⟩ (.slice (some ⟨b, 0, none⟩) (l.length + 1) cap)) g (.slice (some ⟨b, 0, none⟩) (l.length + 1) cap) (l ++ [r]) last most ∧
  G.Chg S w (w1.setCell ⟨g, 0, none⟩ (.slice (some ⟨b, 0, none⟩) (l.length + 1) cap)) := by
 have z : (w.alloc o).heap.size = w.heap.size + 1 := by simp
 obtain ⟨r1, r2⟩ := (h.row.alloc o).app h1 hg (ho.imp id (fun e => by rw [e, z])) hlt
 have hA := (h.head.alloc o).grown hg (fun e => h.row.apartAt h.head (Ne.symm hT) g e rfl)
 have z2 := r2.size
 have e1 : (l ++ [r]).length = l.length + 1 := by simp
 have e2 : (l ++ [r]).flatMap G.Pod.enc = l.flatMap G.Pod.enc ++ r.enc := by simp
 refine ⟨⟨hA.here rfl, hA.soft 0⟩, ⟨hA.put 0 _, ?_, .inl h.own, by rw [e1]; omega, fun c hb => ?_⟩, ((G.Chg.refl S w).alloc o).trans (r2.put (.inl h.own) _)⟩
 ·rw [e1, e2]
  refine (r1.mono fun c hc hb => ?_).aside (p := ⟨g, 0, none⟩) (r1.apartAt hA (Ne.symm hT)) _
  rcases hb with hb | hb
  ·exact .inl hb
  exact .inr ⟨by omega, by rw [G.size_put]; exact hc⟩
 rcases hb with hb | hb
 ·have := h.lim c hb
  rw [G.size_put]; omega
 exact hb.2
theorem FAt.plus {w0 w2 : World} {v' : Value} {l' : List G.Pod} {last' : Int} (hc : G.Chg S w0 w) (h : FAt T (G.Plus (G.Plus S w0 w) w w2) w2 g v' l' last' most) (hc2 : G.Chg (G.Plus S w0 w) w w2) : FAt T (G.Plus S w0 w2) w2 g v' l' last' most ∧ G.Chg S w0 w2 := by
 have z1 := hc.size
 have z2 := hc2.size
 refine ⟨h.mono (fun c hlt hb => ?_) (fun c hb => ?_), hc.plus hc2⟩
 ·rcases hb with hb | hb
  ·exact hb.up (by omega)
  exact .inr ⟨by omega, hlt⟩
 rcases hb with hb | hb
 ·exact h.lim c (.inl (.inl hb))
 exact hb.2
end
theorem FAt.wide {T : TypeId} {S : Nat → Prop} {w0 w w' : World} {g : Nat} {v : Value} {l : List G.Pod} {last most : Int} (h : FAt T (G.Plus S w0 w) w' g v l last most) (hz : w.heap.size ≤ w'.heap.size) (hz0 : w0.heap.size ≤ w'.heap.size) : FAt T (G.Plus S w0 w') w' g v l last most :=
 h.mono (fun c _ hb => hb.up hz) (fun c hb => by
  rcases hb with hb | hb
  ·exact h.lim c (.inl hb)
  exact hb.2)
def ScalePost (T : TypeId) (S : Nat → Prop) (w : World) (g : Nat) (l : List G.Pod) (last most n : Int) (e : Ending) (w' : World) : Prop :=
 e = .returned (.int .i64 (G.scaleErr n)) ∧ (∃ v, FAt T (G.Plus S w w') w' g v (G.scaleLst l last n) (G.scaleLast l last n) most) ∧ G.Chg S w w'
theorem scale_no {T : TypeId} {S : Nat → Prop} {w : World} {g : Nat} {v : Value} {l : List G.Pod} {last most n : Int} (h : FAt T S w g v l last most) (hn : n < 0 ∨ 50 < n) : ScalePost T S w g l last most n (.returned (.int .i64 1)) w := by
 refine ⟨by unfold G.scaleErr; rw [if_pos hn], ⟨v, ?_⟩, G.Chg.refl _ _⟩
 unfold G.scaleLst G.scaleLast G.scaleUp G.scaleDown
 rw [if_pos hn, if_pos hn]
 simpa [G.newPods, G.thinN] using h.up
theorem fleScale (S : Nat → Prop) (g : Nat) (v : Value) (l : List G.Pod) (last most n : Int) (w : World) (h : FAt 124 S w g v l last most) (hcr : G.Crewed l last most) (hm : 0 ≤ most) (hsm : l.length ≤ 9000000) (hla : last ≤ 1000000000000) :
  Calls Tryz.prog 110 #[.pointer (some ⟨g, 0, none⟩), .int .i64 n] w (ScalePost 124 S w g l last most n) := by
 have HH := J h
 clear h
 by_cases h1 : n < 0
 ·have HF := J (scale_no HH.u (.inl h1))
  go_enter Tryz.func110, Tryz.ntmps110
  go_wp2_with fail
  go_ret
  exact HF.u
 by_cases h2 : 50 < n
 ·have HF := J (scale_no HH.u (.inr h2))
  have h1' : 0 ≤ n := by omega
  clear h1
  go_enter Tryz.func110, Tryz.ntmps110
  go_wp2_with fail
  go_ret
  exact HF.u
 have h1' : 0 ≤ n := by omega
 have h2' : n ≤ 50 := by omega
 have hnn := G.liveN_nn l
 have HU := J (show G.scaleUp l n = (n - G.liveN l).toNat by unfold G.scaleUp; rw [if_neg (by omega)])
 have HD := J (show G.scaleDown l n = (G.liveN l - n).toNat by unfold G.scaleDown; rw [if_neg (by omega)])
 have HE := J (show G.scaleErr n = 0 by unfold G.scaleErr; rw [if_neg (by omega)])
 have HCr := J hcr
 have hl0 := hcr.last0
 obtain ⟨i0, hi, hz0, hz1, hz2⟩ := info_parts fle_info
 have hUle := J (show G.scaleUp l n ≤ 50 by rw [HU.u]; omega)
 clear h1 h2 hcr
 go_enter Tryz.func110, Tryz.ntmps110
 go_wp2_with fail
 go_loopg [] (G.scaleUp l n) (fun k wr => ∃ (m : Nat) (vk : Value), m ≤ G.scaleUp l n ∧ k = G.scaleUp l n - m ∧ Hid (FAt 124 (G.Plus S w wr) wr g vk (l ++ G.newPods last m) (last + m) most ∧ G.Chg S w wr))
 case atStart => exact ⟨0, _, by omega, by omega, J ⟨by simpa [G.newPods] using HH.u.up, G.Chg.refl _ _⟩⟩
 obtain ⟨m, vk, hmk, hke, HF⟩ := hrel
 have HKe := J hke; have HMk := J hmk
 have HLv := J (G.live_more l last m)
 have hL : (l ++ G.newPods last m).length < 10000000 := by simp [G.newPods_length]; have := hUle.u; omega
 have HLL := J hL
 have HSucc := J (show l ++ G.newPods last (m + 1) = (l ++ G.newPods last m) ++ [⟨last + 1 + m, 1, 0⟩] by rw [G.newPods_succ, List.append_assoc])
 have HAll := J (show G.scaleLst l last n = G.thinN (G.scaleDown l n) (l ++ G.newPods last (G.scaleUp l n)) from rfl)
 have HLast := J (show G.scaleLast l last n = last + (G.scaleUp l n : Nat) from rfl)
 have HCm := J (HCr.u.more hm m)
 clear hke hmk hL
 by_cases hlt : m < G.scaleUp l n
 ·have hcmp : G.liveN (l ++ G.newPods last m) < n := by have e := HLv.u; have e2 := HU.u; omega
  have HM := J hlt
  have hmm : (m : Int) ≤ 50 := by have := hUle.u; omega
  clear hlt HAll HLast
  go_wp2_with fail
  refine (fleCount _ g vk _ _ most _ HF.u.1).mono ?_
  rintro e w1 ⟨rfl, hb1⟩
  have HC1 := J (HF.u.2.step_below hb1 HF.u.2.size)
  have h1F := (HF.u.1.below hb1).wide hb1.size HC1.u.size
  have hd := h1F.head.here (i := 1) rfl
  have fd := h1F.head.soft 1
  have t1 := h1F.tick (by decide) (last + m + 1)
  have HT := J (show FAt 124 (G.Plus S w (w1.setCell ⟨g, 1, none⟩ (.int .i64 (last + m + 1)))) (w1.setCell ⟨g, 1, none⟩ (.int .i64 (last + m + 1))) g vk (l ++ G.newPods last m) (last + m + 1) most ∧ G.Chg S w (w1.setCell ⟨g, 1, none⟩ (.int .i64 (last + m + 1))) from ⟨t1.1.wide t1.2.size (by have := t1.2.size; have := HC1.u.size; omega), HC1.u.plus t1.2⟩)
  clear hb1 h1F t1 HF HC1
  generalize G.liveN (l ++ G.newPods last m) = cN at hcmp HLv ⊢
  generalize l ++ G.newPods last m = L at HT HSucc HLL HCm ⊢
  go_upto_region 5 with fail
  clear hd fd hcmp
  obtain ⟨W, hW⟩ : ∃ W, Hid (w1.setCell ⟨g, 1, none⟩ (.int .i64 (last + m + 1)) = W) := ⟨_, J rfl⟩
  rw [hW.u] at HT ⊢
  have hc : W.cell? ⟨g, 0, none⟩ = some vk := HT.u.1.head.here rfl
  have hd := HT.u.1.head.here (i := 1) rfl
  have f0 := HT.u.1.head.soft 0
  have hgw : g < W.heap.size := HT.u.1.head.inside
  have hm3 : Hid (L.length + 1 ≤ maxLen) := J (by have := HLL.u; simp only [maxLen]; omega)
  have hm4 : Hid ((L.length + 1) * 24 ≤ 140737488355328) := J (by have := HLL.u; omega)
  clear hW
  go_wp2_with fail
  go_region_law (refine step_append_lies _ (by rfl) (.tmp 26) (.tmp 32) 76 (by rfl) 0 101 i0 (.agg #[.int .i64 0, .int .i64 0, .int .i64 0]) 3 24 Tryz.underlying76 hi hz0 hz1 hz2 rfl (by decide) vk _ _ rfl (HT.u.1.alloc _).drew.row.owns ⟨W.heap.size, 0, none⟩ 1 1 [.int .i64 (last + m + 1), .int .i64 1, .int .i64 0] rfl rfl (G.new_cells_at rfl) (by simp [Value.oneCell']) (by decide) hm3.u hm4.u (Nat.zero_le _) _ rfl ?_; intro b cap w3 hown hg ho hlt; obtain ⟨⟨d9, f9⟩, hA, hC⟩ := HT.u.1.drew.app (r := ⟨last + m + 1, 1, 0⟩) (by decide) HLL.u hown hg (ho.imp id (fun e => e.trans (fle_alloc_size _ _))) hlt)
  all_goals
   have HN := J (FAt.plus (w := W.drew) HT.u.2.drew hA hC)
   clear hown hg ho hlt hA hC hc hd f0 d9 f9 hgw
   go_wp2_with fail
   go_roundg (G.scaleUp l n - (m + 1))
   case measure => have := HM.u; have := HKe.u; omega
   case rel => exact ⟨m + 1, _, by have := HM.u; omega, rfl, J ⟨by rw [HSucc.u, show last + 1 + (m : Int) = last + m + 1 by omega, show last + ((m + 1 : Nat) : Int) = last + m + 1 by omega]; exact HN.u.1, HN.u.2⟩⟩
 have hme : m = G.scaleUp l n := by have := HMk.u; omega
 subst hme
 have hcmp : n ≤ G.liveN (l ++ G.newPods last (G.scaleUp l n)) := by have e := HLv.u; have e2 := HU.u; omega
 have HLv2 := J (show G.liveN (l ++ G.newPods last (G.scaleUp l n)) - n = (G.scaleDown l n : Int) by have e := HLv.u; have e2 := HU.u; have e3 := HD.u; omega)
 clear hlt HSucc
 rw [← HLast.u] at HF HCm
 generalize l ++ G.newPods last (G.scaleUp l n) = L at HF HAll HLv2 HCm hcmp HLL HLv ⊢
 go_wp2_with fail
 refine (fleCount _ g vk _ _ most _ HF.u.1).mono ?_
 rintro e w1 ⟨rfl, hb1⟩
 have HC1 := J (HF.u.2.step_below hb1 HF.u.2.size)
 have H1 := J (show FAt 124 (G.Plus S w w1) w1 g vk L (G.scaleLast l last n) most ∧ G.Chg S w w1 from ⟨(HF.u.1.below hb1).wide hb1.size HC1.u.size, HC1.u⟩)
 clear hb1 HF HC1
 go_wp2_with fail
 go_loopg [] (G.scaleDown l n) (fun k wr => ∃ (j : Nat) (vj : Value), j ≤ G.scaleDown l n ∧ k = G.scaleDown l n - j ∧ Hid (FAt 124 (G.Plus S w wr) wr g vj (G.thinN j L) (G.scaleLast l last n) most ∧ G.Chg S w wr))
 case atStart => exact ⟨0, _, by omega, by omega, H1⟩
 clear H1
 obtain ⟨j, vj, hjk, hke, HF⟩ := hrel
 have hfn := J (HCm.u.thinN j (by have := HLv2.u; omega))
 have HKe := J hke; have HJk := J hjk
 have HS := J (G.thinN_succ j L)
 clear hke hjk
 go_wp2_with fail
 refine (fleCount _ g vj _ _ most _ HF.u.1).mono ?_
 rintro e w2 ⟨rfl, hb2⟩
 have HC2 := J (HF.u.2.step_below hb2 HF.u.2.size)
 have H2 := J (show FAt 124 (G.Plus S w w2) w2 g vj (G.thinN j L) (G.scaleLast l last n) most ∧ G.Chg S w w2 from ⟨(HF.u.1.below hb2).wide hb2.size HC2.u.size, HC2.u⟩)
 clear hb2 HF HC2
 by_cases hlt : j < G.scaleDown l n
 ·have hcm2 : n < G.liveN (G.thinN j L) := by have := hfn.u.2.1; have := HLv2.u; omega
  have HJ := J hlt
  have HP := J (show 0 < G.liveN (G.thinN j L) by omega)
  clear hlt hcmp
  generalize G.liveN (G.thinN j L) = cN at hcm2 ⊢
  go_wp2_with fail
  refine (fleFewer _ g vj _ _ most _ H2.u.1 hfn.u.1.states HP.u).mono ?_
  rintro e w3 ⟨⟨x, rfl⟩, ⟨v3, h3⟩, c3⟩
  have HN := J (show FAt 124 (G.Plus S w w3) w3 g v3 (G.thinN (j + 1) L) (G.scaleLast l last n) most ∧ G.Chg S w w3 from ⟨by rw [HS.u]; exact h3.wide c3.size (Nat.le_trans H2.u.2.size c3.size), H2.u.2.plus c3⟩)
  clear h3 c3
  go_wp2_with fail
  go_roundg (G.scaleDown l n - (j + 1))
  case measure => have := HJ.u; have := HKe.u; omega
  case rel => exact ⟨j + 1, _, by have := HJ.u; omega, rfl, HN⟩
 have hje : j = G.scaleDown l n := by have := HJk.u; omega
 subst hje
 have hcm2 : G.liveN (G.thinN (G.scaleDown l n) L) ≤ n := by have := hfn.u.2.1; have := HLv2.u; omega
 have HR := J (show ScalePost 124 S w g l last most n (.returned (.int .i64 0)) w2 from ⟨by rw [HE.u], ⟨_, by rw [HAll.u]; exact H2.u.1⟩, H2.u.2⟩)
 clear hlt hcmp
 generalize G.liveN (G.thinN (G.scaleDown l n) L) = cN at hcm2 ⊢
 go_wp2_with fail
 go_ret
 exact HR.u
open Go.RowKit
def FleOut (T : TypeId) (S : Nat → Prop) (w : World) (g : Nat) (x : Value) (l : List G.Pod) (last most : Int) (e : Ending) (w' : World) : Prop :=
 e = .returned x ∧ (∃ v, FAt T S w' g v l last most) ∧ G.Chg S w w'
theorem fle_out {T : TypeId} {S : Nat → Prop} {w w' w1 : World} {g : Nat} {x x' v : Value} {l l' : List G.Pod} {last most : Int} (hb : Below w.heap.size w w1) (h : FAt T S w' g v l' last most) (hc : G.Chg S w1 w') (e : x' = x) (el : l' = l) : FleOut T S w g x l last most (.returned x') w' :=
 ⟨by rw [e], ⟨v, el ▸ h⟩, (G.Chg.of_below hb (Nat.le_refl _)).trans hc⟩
theorem fleTurn (S : Nat → Prop) (g : Nat) (v : Value) (l : List G.Pod) (last most id src dst : Int) (w : World) (h : FAt 124 S w g v l last most) :
  Calls Tryz.prog 72 #[.pointer (some ⟨g, 0, none⟩), .int .i64 id, .int .i64 src, .int .i64 dst] w (FleOut 124 S w g (.int .i64 (G.turnErr l id src)) (G.turnLst l id src dst) last most) := by
 have hs := h.small
 have HH := J h
 clear h
 go_enter Tryz.func72, Tryz.ntmps72
 go_wp2_with fail
 refine (fleFind S g v l last most id _ HH.u).mono ?_
 rintro e w1 ⟨rfl, hb1⟩
 have HB := J hb1
 clear hb1
 cases hf : G.findP l id with
 | none =>
  rw [idx_none]
  have HR := J (show FleOut 124 S w g (.int .i64 (G.turnErr l id src)) (G.turnLst l id src dst) last most (.returned (.int .i64 4)) w1 from fle_out HB.u (HH.u.below HB.u) (G.Chg.refl _ _) (by unfold G.turnErr; rw [hf]) (by unfold G.turnLst; rw [hf]))
  clear hf
  go_wp2_with fail
  go_ret
  exact HR.u
 | some i =>
  rw [idx_some]
  obtain ⟨p, hp, _⟩ := G.findP_some hf
  obtain ⟨b, cap, rfl, hS, _, _, hbl, c0, c1, c2, fz⟩ := (HH.u.below HB.u).pod hp
  have hc : w1.cell? ⟨g, 0, none⟩ = some (.slice (some ⟨b, 0, none⟩) l.length cap) := (HH.u.below HB.u).head.here rfl
  have hil := G.get_lt hp
  have i0 : (0 : Int) ≤ (i : Int) := by omega
  have i1 : (i : Int) < (l.length : Int) := by omega
  have f1 := fz (i * 3 + 1)
  by_cases q : p.state = src
  ·have p1 := (HH.u.below HB.u).put (by decide) (k := i) (j := 1) (r' := { p with state := dst }) (u := .int .i64 dst) hp (by decide) rfl
   have HR := J (show FleOut 124 S w g (.int .i64 (G.turnErr l id src)) (G.turnLst l id src dst) last most (.returned (.int .i64 0)) _ from fle_out HB.u p1.1 p1.2 (by unfold G.turnErr; rw [hf]; simp only [hp]; rw [if_pos q]) (by unfold G.turnLst; rw [hf]; simp only [hp]; rw [if_pos q]))
   have q2 : (p.state != src) = false := by simp [q]
   clear hf hp p1 c0 c2 fz q
   go_wp2_with fail
   go_ret
   exact HR.u
  have HR := J (show FleOut 124 S w g (.int .i64 (G.turnErr l id src)) (G.turnLst l id src dst) last most (.returned (.int .i64 7)) w1 from fle_out HB.u (HH.u.below HB.u) (G.Chg.refl _ _) (by unfold G.turnErr; rw [hf]; simp only [hp]; rw [if_neg q]) (by unfold G.turnLst; rw [hf]; simp only [hp]; rw [if_neg q]))
  have q2 : (p.state != src) = true := by simp [q]
  clear hf hp c0 c2 fz q f1
  go_wp2_with fail
  go_ret
  exact HR.u
theorem fleStart (S : Nat → Prop) (g : Nat) (v : Value) (l : List G.Pod) (last most id : Int) (w : World) (h : FAt 124 S w g v l last most) :
  Calls Tryz.prog 26 #[.pointer (some ⟨g, 0, none⟩), .int .i64 id] w (FleOut 124 S w g (.int .i64 (G.turnErr l id 1)) (G.turnLst l id 1 2) last most) := by
 have HH := J h
 clear h
 go_enter Tryz.func26, Tryz.ntmps26
 go_wp2_with fail
 refine (fleTurn S g v l last most id 1 2 _ HH.u).mono ?_
 rintro e w1 ⟨rfl, h1, c1⟩
 have HR := J (show FleOut 124 S w g (.int .i64 (G.turnErr l id 1)) (G.turnLst l id 1 2) last most (.returned (.int .i64 (G.turnErr l id 1))) w1 from ⟨rfl, h1, c1⟩)
 clear h1 c1
 go_wp2_with fail
 go_ret
 exact HR.u
theorem fleReady (S : Nat → Prop) (g : Nat) (v : Value) (l : List G.Pod) (last most id : Int) (w : World) (h : FAt 124 S w g v l last most) :
  Calls Tryz.prog 28 #[.pointer (some ⟨g, 0, none⟩), .int .i64 id] w (FleOut 124 S w g (.int .i64 (G.turnErr l id 2)) (G.turnLst l id 2 3) last most) := by
 have HH := J h
 clear h
 go_enter Tryz.func28, Tryz.ntmps28
 go_wp2_with fail
 refine (fleTurn S g v l last most id 2 3 _ HH.u).mono ?_
 rintro e w1 ⟨rfl, h1, c1⟩
 have HR := J (show FleOut 124 S w g (.int .i64 (G.turnErr l id 2)) (G.turnLst l id 2 3) last most (.returned (.int .i64 (G.turnErr l id 2))) w1 from ⟨rfl, h1, c1⟩)
 clear h1 c1
 go_wp2_with fail
 go_ret
 exact HR.u
theorem fleCrash (S : Nat → Prop) (g : Nat) (v : Value) (l : List G.Pod) (last most id : Int) (w : World) (h : FAt 124 S w g v l last most) :
  Calls Tryz.prog 73 #[.pointer (some ⟨g, 0, none⟩), .int .i64 id] w (FleOut 124 S w g (.tuple #[.int .i64 (G.crashNum l id), .int .i64 (G.crashErr l id)]) (G.crashLst l id) last most) := by
 have hs := h.small
 have HH := J h
 clear h
 go_enter Tryz.func73, Tryz.ntmps73
 go_wp2_with fail
 refine (fleFind S g v l last most id _ HH.u).mono ?_
 rintro e w1 ⟨rfl, hb1⟩
 have HB := J hb1
 clear hb1
 cases hf : G.findP l id with
 | none =>
  rw [idx_none]
  have HR := J (show FleOut 124 S w g (.tuple #[.int .i64 (G.crashNum l id), .int .i64 (G.crashErr l id)]) (G.crashLst l id) last most (.returned (.tuple #[.int .i64 0, .int .i64 4])) w1 from fle_out HB.u (HH.u.below HB.u) (G.Chg.refl _ _) (by unfold G.crashErr G.crashNum; rw [hf]) (by unfold G.crashLst; rw [hf]))
  clear hf
  go_wp2_with fail
  go_ret2
  exact HR.u
 | some i =>
  rw [idx_some]
  obtain ⟨p, hp, _⟩ := G.findP_some hf
  obtain ⟨b, cap, rfl, hS, _, _, hbl, c0, c1, c2, fz⟩ := (HH.u.below HB.u).pod hp
  have hc : w1.cell? ⟨g, 0, none⟩ = some (.slice (some ⟨b, 0, none⟩) l.length cap) := (HH.u.below HB.u).head.here rfl
  have hil := G.get_lt hp
  have i0 : (0 : Int) ≤ (i : Int) := by omega
  have i1 : (i : Int) < (l.length : Int) := by omega
  have HE := J (show G.crashErr l id = 0 ∧ G.crashNum l id = p.load ∧ G.crashLst l id = l.eraseIdx i by
   unfold G.crashErr G.crashNum G.crashLst; rw [hf]; exact ⟨rfl, by simp only; unfold G.loadAt; rw [hp]; rfl, rfl⟩)
  clear hf hp c0 c1 fz
  go_wp2_with fail
  refine (fleGone S g _ l last most i _ (HH.u.below HB.u) hil).mono ?_
  rintro e w2 ⟨⟨x, rfl⟩, ⟨v2, h2⟩, ch2⟩
  have HR := J (show FleOut 124 S w g (.tuple #[.int .i64 (G.crashNum l id), .int .i64 (G.crashErr l id)]) (G.crashLst l id) last most (.returned (.tuple #[.int .i64 p.load, .int .i64 0])) w2 from fle_out HB.u h2 ch2 (by rw [HE.u.1, HE.u.2.1]) HE.u.2.2.symm)
  clear h2 ch2 hc c2
  go_wp2_with fail
  go_ret2
  exact HR.u
theorem fleGive (S : Nat → Prop) (g : Nat) (v : Value) (l : List G.Pod) (last most : Int) (w : World) (h : FAt 124 S w g v l last most) (hm : most ≤ 1000) (hld : ∀ p ∈ l, 0 ≤ p.load) :
  Calls Tryz.prog 112 #[.pointer (some ⟨g, 0, none⟩)] w (FleOut 124 S w g (.tuple #[.int .i64 (G.giveNum l most), .int .i64 (G.giveErr l most)]) (G.giveLst l most) last most) := by
 have hs := h.small
 have HH := J h; have HLd := J hld
 clear h hld
 go_enter Tryz.func112, Tryz.ntmps112
 go_wp2_with fail
 refine (fleBest_lt S g v l last most 3 _ HH.u).mono ?_
 rintro e w1 ⟨rfl, hb1⟩
 have HB := J hb1
 clear hb1
 cases hf : G.best 3 G.ltLoad l with
 | none =>
  rw [idx_none]
  have hg : G.giveAt l most = none := by unfold G.giveAt; rw [hf]
  have HE := J (show G.giveErr l most = 4 ∧ G.giveNum l most = 0 ∧ G.giveLst l most = l by unfold G.giveErr G.giveNum G.giveLst; rw [hg]; exact ⟨rfl, rfl, rfl⟩)
  clear hf hg
  go_wp2_with fail
  go_quiet (fail)
  go_wp2_with fail
  go_ret2
  exact fle_out (fle_drewN HB.u _) (HH.u.below (fle_drewN HB.u _)) (G.Chg.refl _ _) (by rw [HE.u.1, HE.u.2.1] <;> rfl) HE.u.2.2.symm
 | some i =>
  rw [idx_some]
  obtain ⟨p, hp, _⟩ := G.best_at hf
  obtain ⟨b, cap, rfl, hS, _, _, hbl, c0, c1, c2, fz⟩ := (HH.u.below HB.u).pod hp
  have hc : w1.cell? ⟨g, 0, none⟩ = some (.slice (some ⟨b, 0, none⟩) l.length cap) := (HH.u.below HB.u).head.here rfl
  have hmo : w1.cell? ⟨g, 2, none⟩ = some (.int .i64 most) := (HH.u.below HB.u).head.here rfl
  have hil := G.get_lt hp
  have i0 : (0 : Int) ≤ (i : Int) := by omega
  have i1 : (i : Int) < (l.length : Int) := by omega
  have hla : G.loadAt l i = p.load := by unfold G.loadAt; rw [hp]; rfl
  have l0 := HLd.u p (List.mem_of_getElem? hp)
  have HP := J hp
  have HFz := J fz
  by_cases q : most ≤ p.load
  ·have hg : G.giveAt l most = none := by unfold G.giveAt; rw [hf]; simp only; rw [hla, if_pos q]
   have HE := J (show G.giveErr l most = 4 ∧ G.giveNum l most = 0 ∧ G.giveLst l most = l by unfold G.giveErr G.giveNum G.giveLst; rw [hg]; exact ⟨rfl, rfl, rfl⟩)
   clear hf hg hp hla fz c0 c1
   go_wp2_with fail
   go_quiet (fail)
   go_wp2_with fail
   go_ret2
   exact fle_out (fle_drewN HB.u _) (HH.u.below (fle_drewN HB.u _)) (G.Chg.refl _ _) (by rw [HE.u.1, HE.u.2.1] <;> rfl) HE.u.2.2.symm
  have q' : p.load < most := by omega
  have hg : G.giveAt l most = some i := by unfold G.giveAt; rw [hf]; simp only; rw [hla, if_neg q]
  have HE := J (show G.giveErr l most = 0 ∧ G.giveNum l most = p.id ∧ G.giveLst l most = l.set i { p with load := p.load + 1 } by unfold G.giveErr G.giveNum G.giveLst; rw [hg]; simp only [HP.u]; exact ⟨trivial, rfl, trivial⟩)
  clear hf hg hp hla fz c1 q
  go_wp2_with fail
  go_quiet (fail)
  have f2 := HFz.u (i * 3 + 2)
  have HW := J (HH.u.below (fle_drewN HB.u nq))
  obtain ⟨W, hW⟩ : ∃ W, Hid (w1.drewN nq = W) := ⟨_, J rfl⟩
  have HBW := J (fle_drewN HB.u nq)
  rw [hW.u] at HW HBW
  have p1 := HW.u.put (by decide) (k := i) (j := 2) (r' := { p with load := p.load + 1 }) (u := .int .i64 (p.load + 1)) HP.u (by decide) rfl
  have P1 := J p1
  clear p1
  rw [hW.u]
  have hcW := HW.u.head.here (i := 0) rfl
  obtain ⟨b', cap', e, _, _, _, _, _, _, d2, fz⟩ := HW.u.pod HP.u
  cases e
  have f2W := fz (i * 3 + 2)
  have hcP : (W.setCell ⟨b, i * 3 + 2, none⟩ (.int .i64 (p.load + 1))).cell? ⟨g, 0, none⟩ = some (.slice (some ⟨b, 0, none⟩) l.length cap) := P1.u.1.head.here rfl
  obtain ⟨b', cap', e, _, _, _, _, e0, _, _, _⟩ := P1.u.1.pod (List.getElem?_set_self hil)
  rw [List.length_set] at e
  cases e
  have HE0 := J (fle_out HBW.u P1.u.1 P1.u.2 (x := .tuple #[.int .i64 (G.giveNum l most), .int .i64 (G.giveErr l most)]) (l := G.giveLst l most) (x' := .tuple #[.int .i64 p.id, .int .i64 0]) (by rw [HE.u.1, HE.u.2.1]) HE.u.2.2.symm)
  clear hc hmo c0 c2 f2 fz hW
  go_wp2_with fail
  go_ret2
  exact HE0.u
theorem fleDone (S : Nat → Prop) (g : Nat) (v : Value) (l : List G.Pod) (last most id : Int) (w : World) (h : FAt 124 S w g v l last most) (hld : ∀ p ∈ l, 0 ≤ p.load ∧ p.load ≤ 1000) :
  Calls Tryz.prog 77 #[.pointer (some ⟨g, 0, none⟩), .int .i64 id] w (FleOut 124 S w g (.int .i64 (G.podDoneErr l id)) (G.podDoneLst l id) last most) := by
 have hs := h.small
 have HH := J h; have HLd := J hld
 clear h hld
 go_enter Tryz.func77, Tryz.ntmps77
 go_wp2_with fail
 refine (fleFind S g v l last most id _ HH.u).mono ?_
 rintro e w1 ⟨rfl, hb1⟩
 have HB := J hb1
 clear hb1
 cases hf : G.findP l id with
 | none =>
  rw [idx_none]
  have HR := J (show FleOut 124 S w g (.int .i64 (G.podDoneErr l id)) (G.podDoneLst l id) last most (.returned (.int .i64 4)) w1 from fle_out HB.u (HH.u.below HB.u) (G.Chg.refl _ _) (by unfold G.podDoneErr; rw [hf]) (by unfold G.podDoneLst; rw [hf]))
  clear hf
  go_wp2_with fail
  go_ret
  exact HR.u
 | some i =>
  rw [idx_some]
  obtain ⟨p, hp, _⟩ := G.findP_some hf
  obtain ⟨b, cap, rfl, hS, _, _, hbl, c0, c1, c2, fz⟩ := (HH.u.below HB.u).pod hp
  have hc : w1.cell? ⟨g, 0, none⟩ = some (.slice (some ⟨b, 0, none⟩) l.length cap) := (HH.u.below HB.u).head.here rfl
  have hil := G.get_lt hp
  have i0 : (0 : Int) ≤ (i : Int) := by omega
  have i1 : (i : Int) < (l.length : Int) := by omega
  have hla : G.loadAt l i = p.load := by unfold G.loadAt; rw [hp]; rfl
  have l0 := (HLd.u p (List.mem_of_getElem? hp)).1
  have l1 := (HLd.u p (List.mem_of_getElem? hp)).2
  have f2 := fz (i * 3 + 2)
  have HP := J hp
  by_cases q : p.load = 0
  ·have HR := J (show FleOut 124 S w g (.int .i64 (G.podDoneErr l id)) (G.podDoneLst l id) last most (.returned (.int .i64 7)) w1 from fle_out HB.u (HH.u.below HB.u) (G.Chg.refl _ _) (by unfold G.podDoneErr; rw [hf]; simp only; rw [hla, if_pos q]) (by unfold G.podDoneLst; rw [hf]; simp only [hp]; rw [if_pos q]))
   rw [q] at c2
   clear hf hp hla c0 c1 fz f2 q l0 l1
   go_wp2_with fail
   go_ret
   exact HR.u
  have q2 : (p.load == 0) = false := by simp only [beq_eq_false_iff_ne]; exact q
  have q3 : 1 ≤ p.load := by omega
  have p1 := (HH.u.below HB.u).put (by decide) (k := i) (j := 2) (r' := { p with load := p.load - 1 }) (u := .int .i64 (p.load - 1)) hp (by decide) rfl
  have P1 := J p1
  have HErr := J (show G.podDoneErr l id = 0 by unfold G.podDoneErr; rw [hf]; simp only; rw [hla, if_neg q])
  have HLst := J (show G.podDoneLst l id = if p.state = 4 ∧ p.load - 1 = 0 then l.eraseIdx i else l.set i { p with load := p.load - 1 } by unfold G.podDoneLst; rw [hf]; simp only [hp]; rw [if_neg q])
  have hcP : (w1.setCell ⟨b, i * 3 + 2, none⟩ (.int .i64 (p.load - 1))).cell? ⟨g, 0, none⟩ = some (.slice (some ⟨b, 0, none⟩) l.length cap) := p1.1.head.here rfl
  obtain ⟨b', cap', e, _, _, _, _, e0, e1, e2, _⟩ := p1.1.pod (List.getElem?_set_self hil)
  rw [List.length_set] at e
  cases e
  have HE1 := J e1; have HE2 := J e2
  clear p1 hf hp hla c0 c1 fz q e0 e1 e2 hcP
  go_upto_region 7 with fail
  have hcP : (w1.setCell ⟨b, i * 3 + 2, none⟩ (.int .i64 (p.load - 1))).cell? ⟨g, 0, none⟩ = some (.slice (some ⟨b, 0, none⟩) l.length cap) := P1.u.1.head.here rfl
  have e1 := HE1.u; have e2 := HE2.u
  have q4 : 0 ≤ p.load - 1 := by omega
  clear f2 c2 q2 q3 l0 l1 hc
  obtain ⟨W, hW⟩ : ∃ W, Hid (w1.setCell ⟨b, i * 3 + 2, none⟩ (.int .i64 (p.load - 1)) = W) := ⟨_, J rfl⟩
  rw [hW.u] at P1 hcP e1 e2 ⊢
  clear hW HE1 HE2
  generalize p.load - 1 = pl at P1 HLst e2 q4 ⊢
  by_cases d : p.state = 4
  ·by_cases d2 : pl = 0
   ·have HR0 := J (show G.podDoneLst l id = (l.set i ⟨p.id, p.state, pl⟩).eraseIdx i by rw [HLst.u, if_pos ⟨d, d2⟩, List.eraseIdx_set_eq])
    rw [d] at e1
    rw [d2] at e2
    clear d d2 q4
    go_wp2_with fail
    refine (fleGone S g _ _ last most i _ P1.u.1 (by rw [List.length_set]; exact hil)).mono ?_
    rintro e w2 ⟨⟨x, rfl⟩, ⟨v2, h2⟩, ch2⟩
    have HR := J (show FleOut 124 S w g (.int .i64 (G.podDoneErr l id)) (G.podDoneLst l id) last most (.returned (.int .i64 0)) w2 from fle_out HB.u h2 (P1.u.2.trans ch2) (by rw [HErr.u]) HR0.u.symm)
    clear h2 ch2 hcP e1 e2
    go_wp2_with fail
    go_ret
    exact HR.u
   have d3 : (pl == 0) = false := by simp only [beq_eq_false_iff_ne]; exact d2
   have HR := J (show FleOut 124 S w g (.int .i64 (G.podDoneErr l id)) (G.podDoneLst l id) last most (.returned (.int .i64 0)) W from fle_out HB.u P1.u.1 P1.u.2 (by rw [HErr.u]) (by rw [HLst.u, if_neg (fun c => d2 c.2)]))
   rw [d] at e1
   clear d d2
   go_wp2_with fail
   go_ret
   exact HR.u
  have d3 : (p.state == 4) = false := by simp only [beq_eq_false_iff_ne]; exact d
  have HR := J (show FleOut 124 S w g (.int .i64 (G.podDoneErr l id)) (G.podDoneLst l id) last most (.returned (.int .i64 0)) W from fle_out HB.u P1.u.1 P1.u.2 (by rw [HErr.u]) (by rw [HLst.u, if_neg (fun c => d c.1)]))
  clear d
  go_wp2_with fail
  go_ret
  exact HR.u
def mostOf (n : Int) : Int := min (max n 1) 100
def FleNewPost (T : TypeId) (w : World) (most : Int) (e : Ending) (w' : World) : Prop := ∃ g, e = .returned (.pointer (some ⟨g, 0, none⟩)) ∧ FAt T (G.Plus (fun _ => False) w w') w' g (.slice none 0 0) [] 0 most ∧ Below w.heap.size w w'
theorem fnew_made (T : TypeId) (w : World) (most : Int) : FleNewPost T w most (.returned (.pointer (some ⟨w.heap.size, 0, none⟩))) (w.alloc (.cells #[.slice none 0 0, .int .i64 0, .int .i64 most] T)) :=
 ⟨_, rfl, ⟨G.At.made w _ _, G.OwnRow.nil _ _ _ _, .inr ⟨Nat.le_refl _, by simp⟩, by simp, fun b hb => by rcases hb with hb | hb; exact hb.elim; exact hb.2⟩, (Below.refl _ _).alloc (Nat.le_refl _) _⟩
theorem fleNew (n : Int) (w : World) : Calls Tryz.prog 14 #[.int .i64 n] w (FleNewPost 124 w (mostOf n)) := by
 have HF := J (fnew_made 124 w (mostOf n))
 by_cases h1 : n < 1
 ·have HE := J (show mostOf n = 1 by unfold mostOf; omega)
  rw [HE.u] at HF
  rw [HE.u]
  have h2 : n ≤ 1 := by omega
  go_enter Tryz.func14, Tryz.ntmps14
  go_wp2_with fail
  go_ret
  exact HF.u
 by_cases h2 : 100 < n
 ·have HE := J (show mostOf n = 100 by unfold mostOf; omega)
  rw [HE.u] at HF
  rw [HE.u]
  have h3 : 1 < n := by omega
  clear h1
  go_enter Tryz.func14, Tryz.ntmps14
  go_wp2_with fail
  go_ret
  exact HF.u
 have HE := J (show mostOf n = n by unfold mostOf; omega)
 rw [HE.u] at HF
 rw [HE.u]
 have h3 : 1 ≤ n := by omega
 have h4 : n ≤ 100 := by omega
 clear h1 h2
 go_enter Tryz.func14, Tryz.ntmps14
 go_wp2_with fail
 go_ret
 exact HF.u
open Go.RowKit
theorem info_req : (Tryz.prog.info? 105).map (fun i => (i.zero, i.size, i.bytes)) = some (some (.agg #[.int .i64 0, .int .i64 0, .int .i64 0, .int .i64 0, .int .i64 0]), 5, 40) := by kernel_rfl
structure BAt (T : TypeId) (S : Nat → Prop) (w : World) (g : Nat) (v : Value) (l : List G.Req) : Prop where
 head : G.At w g T #[v]
 row : G.OwnRow S w 105 5 v l.length (l.flatMap G.Req.enc)
 own : S g
 small : l.length ≤ 200
 lim : ∀ b, S b → b < w.heap.size
theorem BAt.chg {T : TypeId} {S C : Nat → Prop} {w w' : World} {g : Nat} {v : Value} {l : List G.Req} (h : BAt T S w g v l) (hc : G.Chg C w w') (hs : ∀ b, S b → ¬ C b) : BAt T S w' g v l :=
 ⟨h.head.chg hc (hs g h.own), h.row.chg hc hs, h.own, h.small, fun b hb => Nat.lt_of_lt_of_le (h.lim b hb) hc.size⟩
theorem BAt.below {T : TypeId} {S : Nat → Prop} {w w' : World} {g : Nat} {v : Value} {l : List G.Req} (h : BAt T S w g v l) (hb : Below w.heap.size w w') : BAt T S w' g v l :=
 h.chg (C := fun _ => False) (G.Chg.of_below hb (Nat.le_refl _)) (fun _ _ h => h)
theorem BAt.mono {T : TypeId} {S S' : Nat → Prop} {w : World} {g : Nat} {v : Value} {l : List G.Req} (h : BAt T S w g v l) (hs : ∀ b, b < w.heap.size → S b → S' b) (hl : ∀ b, S' b → b < w.heap.size) : BAt T S' w g v l :=
 ⟨h.head, h.row.mono hs, hs g h.head.inside h.own, h.small, hl⟩
theorem BAt.up {T : TypeId} {S : Nat → Prop} {w0 w : World} {g : Nat} {v : Value} {l : List G.Req} (h : BAt T S w g v l) : BAt T (G.Plus S w0 w) w g v l :=
 h.mono (fun _ _ hb => .inl hb) (fun b hb => by rcases hb with hb | hb; exact h.lim b hb; exact hb.2)
theorem BAt.alloc {T : TypeId} {S : Nat → Prop} {w : World} {g : Nat} {v : Value} {l : List G.Req} (h : BAt T S w g v l) (o : Obj) : BAt T S (w.alloc o) g v l :=
 ⟨h.head.alloc o, h.row.alloc o, h.own, h.small, fun b hb => by simp; have := h.lim b hb; omega⟩
theorem BAt.drew {T : TypeId} {S : Nat → Prop} {w : World} {g : Nat} {v : Value} {l : List G.Req} (h : BAt T S w g v l) : BAt T S w.drew g v l := ⟨h.head.drew, h.row.drew, h.own, h.small, h.lim⟩
theorem BAt.req {T : TypeId} {S : Nat → Prop} {w : World} {g : Nat} {v : Value} {l : List G.Req} (h : BAt T S w g v l) {k : Nat} {r : G.Req} (hk : l[k]? = some r) :
  ∃ b cap, v = .slice (some ⟨b, 0, none⟩) l.length cap ∧ S b ∧ l.length ≤ cap ∧ cap ≤ maxLen ∧ b < w.heap.size ∧ w.cell? ⟨b, k * 5, none⟩ = some (.int .i64 r.id) ∧ w.cell? ⟨b, k * 5 + 1, none⟩ = some (.int .i64 r.source) ∧ w.cell? ⟨b, k * 5 + 2, none⟩ = some (.int .i64 r.till) ∧
   w.cell? ⟨b, k * 5 + 3, none⟩ = some (.int .i64 r.fate) ∧ w.cell? ⟨b, k * 5 + 4, none⟩ = some (.int .i64 r.pod) ∧ (∀ i, w.frozen? ⟨b, i, none⟩ = false) := by
 obtain ⟨b, cap, e, hS, h1, h2, h3⟩ := h.row.form (by have := G.get_lt hk; omega)
 exact ⟨b, cap, e, hS, h1, h2, h3.inside, h3.cell (G.flat_get (j := 0) G.Req.enc_length hk rfl), h3.cell (G.flat_get (j := 1) G.Req.enc_length hk rfl), h3.cell (G.flat_get (j := 2) G.Req.enc_length hk rfl), h3.cell (G.flat_get (j := 3) G.Req.enc_length hk rfl), h3.cell (G.flat_get (j := 4) G.Req.enc_length hk rfl), h3.soft⟩
theorem BAt.apart {T : TypeId} {S : Nat → Prop} {w : World} {g : Nat} {v : Value} {l : List G.Req} (h : BAt T S w g v l) (hT : T ≠ 105) : ∀ b, v.ownBlock = some b → b ≠ g := h.row.apartAt h.head (Ne.symm hT)
theorem BAt.put {T : TypeId} {S : Nat → Prop} {w : World} {g b cap n : Nat} {l : List G.Req} (h : BAt T S w g (.slice (some ⟨b, 0, none⟩) n cap) l) (hT : T ≠ 105) {k j : Nat} {r r' : G.Req} {u : Value} (hk : l[k]? = some r) (hj : j < 5) (hu : r.enc.set j u = r'.enc) :
  BAt T S (w.setCell ⟨b, k * 5 + j, none⟩ u) g (.slice (some ⟨b, 0, none⟩) n cap) (l.set k r') ∧ G.Chg S w (w.setCell ⟨b, k * 5 + j, none⟩ u) := by
 have hkl := G.get_lt hk
 obtain ⟨b', cap', e, hS, _⟩ := h.row.form (by omega)
 cases e
 have hgb : b ≠ g := h.apart hT b rfl
 have p1 := h.row.put (G.flat_lt G.Req.enc_length hkl hj) u
 rw [G.flat_set G.Req.enc_length hk hj hu] at p1
 refine ⟨⟨h.head.other (p := ⟨b, k * 5 + j, none⟩) (Ne.symm hgb) _, ?_, h.own, by rw [List.length_set]; exact h.small, fun c hc => by rw [G.size_put]; exact h.lim c hc⟩, (G.Chg.refl S w).put (p := ⟨b, k * 5 + j, none⟩) (.inl hS) _⟩
 rw [List.length_set]; exact p1
def ReadPost (w : World) (v : Value) (e : Ending) (w' : World) : Prop := e = .returned v ∧ Below w.heap.size w w'
theorem bufCount (S : Nat → Prop) (g : Nat) (v : Value) (l : List G.Req) (src fate : Int) (w : World) (h : BAt 126 S w g v l) :
  Calls Tryz.prog 75 #[.pointer (some ⟨g, 0, none⟩), .int .i64 src, .int .i64 fate] w (ReadPost w (.int .i64 (G.countF src fate l))) := by
 obtain ⟨A, cap, rfl, _, _, _⟩ := h.row.slice
 have hc := h.head.here (i := 0) rfl
 have hs := h.small
 have HH := J h
 clear h
 go_enter Tryz.func75, Tryz.ntmps75
 go_wp2_with fail
 go_loopw [7, 15] (fun n i wr => ∃ k : Nat, k ≤ l.length ∧ i = .int .i64 k ∧ n = .int .i64 (((l.take k).countP (G.hasF src fate) : Nat) : Int) ∧ Below w.heap.size w wr) (fun _ i _ => l.length - (intOf i).toNat)
 case atStart => exact ⟨0, by omega, rfl, by simp, Below.refl _ _⟩
 clear hc
 obtain ⟨k, hk, rfl, rfl, hb⟩ := hrel
 by_cases hlt : k < l.length
 ·obtain ⟨r, hr⟩ := G.get_some l hlt
  obtain ⟨b, cap', e, hS, _, _, hbl, c0, c1, c2, c3, c4, _⟩ := (HH.u.below hb).req hr
  cases e
  have i0 : (0 : Int) ≤ (k : Int) := by omega
  have i1 : (k : Int) < (l.length : Int) := by omega
  have HC := J (G.count_snoc (p := G.hasF src fate) hr)
  have hle : (l.take k).countP (G.hasF src fate) ≤ 200 := Nat.le_trans List.countP_le_length (by rw [List.length_take]; omega)
  generalize (l.take k).countP (G.hasF src fate) = N at HC hle ⊢
  have hle' : (N : Int) ≤ 200 := by omega
  have HB := J (hb.alloc hb.size (.cells #[.int .i64 r.id, .int .i64 r.source, .int .i64 r.till, .int .i64 r.fate, .int .i64 r.pod] 105))
  clear hr hb hle
  cases hf : (r.fate == fate)
  ·have HT := J (show G.hasF src fate r = false by unfold G.hasF; rw [hf]; rfl)
   go_wp2_with fail
   go_roundw
   case rel => exact ⟨k + 1, by omega, by go_num, by rw [HC.u, HT.u]; go_num, HB.u⟩
   case measure => simp [intOf]; omega
  by_cases hsrc : src < 0
  ·have HT := J (show G.hasF src fate r = true by unfold G.hasF; rw [hf]; simp [hsrc])
   go_wp2_with fail
   go_roundw
   case rel => exact ⟨k + 1, by omega, by go_num, by rw [HC.u, HT.u]; go_num, HB.u⟩
   case measure => simp [intOf]; omega
  have hsrc' : 0 ≤ src := by omega
  cases hg : (r.source == src)
  ·have HT := J (show G.hasF src fate r = false by unfold G.hasF; rw [hf, hg]; simp [hsrc])
   clear hsrc
   go_wp2_with fail
   go_roundw
   case rel => exact ⟨k + 1, by omega, by go_num, by rw [HC.u, HT.u]; go_num, HB.u⟩
   case measure => simp [intOf]; omega
  have HT := J (show G.hasF src fate r = true by unfold G.hasF; rw [hf, hg]; simp)
  clear hsrc
  go_wp2_with fail
  go_roundw
  case rel => exact ⟨k + 1, by omega, by go_num, by rw [HC.u, HT.u]; go_num, HB.u⟩
  case measure => simp [intOf]; omega
 have hke : k = l.length := by omega
 subst hke
 have HB := J hb
 clear hb
 rw [List.take_length]
 go_wp2_with fail
 go_ret
 exact ⟨rfl, HB.u⟩
open Go.RowKit
theorem buf_cells_in {w : World} {cs : Array Value} {T : TypeId} {H : Nat} (hH : w.heap.size = H) : ∀ (j : Nat) (u : Value), cs.toList[j]? = some u → (w.alloc (.cells cs T)).cell? ((⟨H, 0, none⟩ : Addr).add j) = some u := by
 subst hH; exact G.new_cells w cs T
theorem BAt.app {T : TypeId} {S : Nat → Prop} {w w1 : World} {g b cap : Nat} {l : List G.Req} {v : Value} {r : G.Req} {o : Obj} (h : BAt T S w g v l) (hT : T ≠ 105) (hl : l.length < 200)
  (h1 : w1.ownsRow 0 105 5 (.slice (some ⟨b, 0, none⟩) (l.length + 1) cap) (l.length + 1) (l.flatMap G.Req.enc ++ r.enc)) (hg : (w.alloc o).grownBy w1 v.ownBlock) (ho : v.ownBlock = some b ∨ b = w.heap.size + 1) (hlt : b < w1.heap.size) :
  (w1.cell? ⟨g, 0, none⟩ = some v ∧ w1.frozen? ⟨g, 0, none⟩ = false) ∧
  BAt T (G.Plus S w (w1.setCell ⟨g, 0, none⟩ (.slice (some ⟨b, 0, none⟩) (l.length + 1) cap))) (w1.setCell ⟨g, 0, none⟩ (.slice (some ⟨b, 0, none⟩) (l.length + 1) cap)) g (.slice (some ⟨b, 0, none⟩) (l.length + 1) cap) (l ++ [r]) ∧
  G.Chg S w (w1.setCell ⟨g, 0, none⟩ (.slice (some ⟨b, 0, none⟩) (l.length + 1) cap)) := by
 have z : (w.alloc o).heap.size = w.heap.size + 1 := by simp
 obtain ⟨r1, r2⟩ := (h.row.alloc o).app h1 hg (ho.imp id (fun e => by rw [e, z])) hlt
 have hA := (h.head.alloc o).grown hg (fun e => h.row.apartAt h.head (Ne.symm hT) g e rfl)
 have z2 := r2.size
 have e1 : (l ++ [r]).length = l.length + 1 := by simp
 have e2 : (l ++ [r]).flatMap G.Req.enc = l.flatMap G.Req.enc ++ r.enc := by simp
 refine ⟨⟨hA.here rfl, hA.soft 0⟩, ⟨hA.put 0 _, ?_, .inl h.own, by rw [e1]; omega, fun c hb => ?_⟩, ((G.Chg.refl S w).alloc o).trans (r2.put (.inl h.own) _)⟩
 ·rw [e1, e2]
  refine (r1.mono fun c hc hb => ?_).aside (p := ⟨g, 0, none⟩) (r1.apartAt hA (Ne.symm hT)) _
  rcases hb with hb | hb
  ·exact .inl hb
  exact .inr ⟨by omega, by rw [G.size_put]; exact hc⟩
 rcases hb with hb | hb
 ·have := h.lim c hb
  rw [G.size_put]; omega
 exact hb.2
def AskPost (T : TypeId) (S : Nat → Prop) (w : World) (g : Nat) (l : List G.Req) (now src ticks : Int) (e : Ending) (w' : World) : Prop :=
 e = .returned (.tuple #[.int .i64 (G.askNum l now src ticks), .int .i64 (G.askErr l now src ticks)]) ∧ (∃ v, BAt T (G.Plus S w w') w' g v (G.askLst l now src ticks)) ∧ G.Chg S w w'
theorem ask_no {T : TypeId} {S : Nat → Prop} {w w' : World} {g : Nat} {v : Value} {l : List G.Req} {now src ticks x : Int} (h : BAt T S w g v l) (hb : Below w.heap.size w w') (hx : x ≠ 0) (he : G.askErr l now src ticks = x) : AskPost T S w g l now src ticks (.returned (.tuple #[.int .i64 0, .int .i64 x])) w' := by
 refine ⟨by unfold G.askNum; rw [he, if_neg hx], ⟨v, ?_⟩, G.Chg.of_below hb (Nat.le_refl _)⟩
 unfold G.askLst; rw [he, if_neg hx]
 exact (h.below hb).up
theorem ask_yes {T : TypeId} {S : Nat → Prop} {w w1 w' : World} {g : Nat} {v : Value} {l : List G.Req} {now src ticks : Int} (hb : Below w.heap.size w w1) (h : BAt T (G.Plus S w1 w') w' g v (l ++ [⟨l.length + 1, src, now + ticks, 1, 0⟩])) (hc : G.Chg S w1 w') (hl : ∀ b, S b → b < w.heap.size) (he : G.askErr l now src ticks = 0) : AskPost T S w g l now src ticks (.returned (.tuple #[.int .i64 (l.length + 1), .int .i64 0])) w' := by
 have z1 := hb.size; have z2 := hc.size
 refine ⟨by unfold G.askNum; rw [he, if_pos rfl], ⟨v, ?_⟩, (G.Chg.of_below hb (Nat.le_refl _)).trans hc⟩
 unfold G.askLst; rw [he, if_pos rfl]
 refine h.mono (fun c hc hb => ?_) (fun c hb => ?_)
 ·rcases hb with hb | hb
  ·exact .inl hb
  exact .inr ⟨by omega, hb.2⟩
 rcases hb with hb | hb
 ·have := hl c hb; omega
 exact hb.2
theorem bufAsk (S : Nat → Prop) (g : Nat) (v : Value) (l : List G.Req) (now src ticks : Int) (w : World) (h : BAt 126 S w g v l) :
  Calls Tryz.prog 30 #[.pointer (some ⟨g, 0, none⟩), .int .i64 now, .int .i64 src, .int .i64 ticks] w (AskPost 126 S w g l now src ticks) := by
 obtain ⟨A, cap0, rfl, _, _, _⟩ := h.row.slice
 have hs := h.small
 have HH := J h
 clear h
 by_cases q1 : now < 0
 ·have HF := J (ask_no (now := now) (src := src) (ticks := ticks) HH.u (Below.refl _ _) (x := 1) (by decide) (by unfold G.askErr; rw [if_pos (by omega)]))
  go_enter Tryz.func30, Tryz.ntmps30
  go_wp2_with fail
  go_ret2
  exact HF.u
 by_cases q2 : 1099511627776 < now
 ·have HF := J (ask_no (now := now) (src := src) (ticks := ticks) HH.u (Below.refl _ _) (x := 1) (by decide) (by unfold G.askErr; rw [if_pos (by omega)]))
  have q1' : 0 ≤ now := by omega
  clear q1
  go_enter Tryz.func30, Tryz.ntmps30
  go_wp2_with fail
  go_ret2
  exact HF.u
 have q1' : 0 ≤ now := by omega
 have q2' : now ≤ 1099511627776 := by omega
 clear q1 q2
 by_cases q3 : ticks < 1
 ·have HF := J (ask_no (now := now) (src := src) (ticks := ticks) HH.u (Below.refl _ _) (x := 1) (by decide) (by unfold G.askErr; rw [if_pos (by omega)]))
  go_enter Tryz.func30, Tryz.ntmps30
  go_wp2_with fail
  go_ret2
  exact HF.u
 by_cases q4 : 100000 < ticks
 ·have HF := J (ask_no (now := now) (src := src) (ticks := ticks) HH.u (Below.refl _ _) (x := 1) (by decide) (by unfold G.askErr; rw [if_pos (by omega)]))
  have q3' : 1 ≤ ticks := by omega
  clear q3
  go_enter Tryz.func30, Tryz.ntmps30
  go_wp2_with fail
  go_ret2
  exact HF.u
 have q3' : 1 ≤ ticks := by omega
 have q4' : ticks ≤ 100000 := by omega
 clear q3 q4
 by_cases q5 : src < 0
 ·have HF := J (ask_no (now := now) (src := src) (ticks := ticks) HH.u (Below.refl _ _) (x := 4) (by decide) (by unfold G.askErr; rw [if_neg (by omega), if_pos (by omega)]))
  go_enter Tryz.func30, Tryz.ntmps30
  go_wp2_with fail
  go_ret2
  exact HF.u
 have q5' : 0 ≤ src := by omega
 clear q5
 by_cases q6 : 6 ≤ src
 ·have HF := J (ask_no (now := now) (src := src) (ticks := ticks) HH.u (Below.refl _ _) (x := 4) (by decide) (by unfold G.askErr; rw [if_neg (by omega), if_pos (by omega)]))
  go_enter Tryz.func30, Tryz.ntmps30
  go_wp2_with fail
  go_ret2
  exact HF.u
 have q6' : src < 6 := by omega
 clear q6
 have HE := J (show G.askErr l now src ticks = if G.countF src 1 l = 20 ∨ G.countF (-1) 1 l = 60 ∨ l.length = 200 then 6 else 0 from by unfold G.askErr; rw [if_neg (by omega), if_neg (by omega)])
 obtain ⟨i0, hi, hz0, hz1, hz2⟩ := info_parts info_req
 go_enter Tryz.func30, Tryz.ntmps30
 go_wp2_with fail
 refine (bufCount S g _ l src 1 _ HH.u).mono ?_
 rintro e w1 ⟨rfl, hb1⟩
 have HB1 := J hb1
 have HH1 := J (HH.u.below hb1)
 clear hb1
 generalize G.countF src 1 l = c1 at HE ⊢
 by_cases k1 : c1 = 20
 ·have HF := J (ask_no (now := now) (src := src) (ticks := ticks) HH.u HB1.u (x := 6) (by decide) (by rw [HE.u, if_pos (.inl k1)]))
  subst k1
  go_wp2_with fail
  go_ret2
  exact HF.u
 go_wp2_with fail
 refine (bufCount S g _ l (-1) 1 _ HH1.u).mono ?_
 rintro e w2 ⟨rfl, hb2⟩
 have HB2 := J (HB1.u.trans (hb2.mono HB1.u.size))
 have HH2 := J (HH1.u.below hb2)
 clear hb2
 generalize G.countF (-1) 1 l = c2 at HE ⊢
 by_cases k2 : c2 = 60
 ·have HF := J (ask_no (now := now) (src := src) (ticks := ticks) HH.u HB2.u (x := 6) (by decide) (by rw [HE.u, if_pos (.inr (.inl k2))]))
  subst k2
  clear k1
  go_wp2_with fail
  go_ret2
  exact HF.u
 have hc := HH2.u.head.here (i := 0) rfl
 by_cases k3 : (l.length : Int) = 200
 ·have HF := J (ask_no (now := now) (src := src) (ticks := ticks) HH.u HB2.u (x := 6) (by decide) (by rw [HE.u, if_pos (.inr (.inr (by omega)))]))
  clear k1
  go_wp2_with fail
  go_ret2
  exact HF.u
 have HE0 := J (show G.askErr l now src ticks = 0 by rw [HE.u, if_neg (by omega)])
 have hs' : (l.length : Int) < 200 := by omega
 have HL := J (show l.length < 200 by omega)
 have hm3 := J (show l.length + 1 ≤ maxLen by simp only [maxLen]; omega)
 have hm4 := J (show (l.length + 1) * 40 ≤ 140737488355328 by omega)
 have k3b : ((l.length : Int) == 200) = false := by simp only [beq_eq_false_iff_ne]; exact k3
 clear k1 HE k3
 go_wp2_with (at_builtin; refine wpList_append_lies _ (by rfl) (.tmp 57) (.tmp 64) 80 (by rfl) 0 105 i0 (.agg #[.int .i64 0, .int .i64 0, .int .i64 0, .int .i64 0, .int .i64 0]) 5 40 Tryz.underlying80 hi hz0 hz1 hz2 rfl (by decide) (.slice A l.length cap0) _ _ rfl (HH2.u.row.alloc _).owns ⟨w2.heap.size, 0, none⟩ 1 1 (G.Req.enc ⟨l.length + 1, src, now + ticks, 1, 0⟩) rfl rfl (buf_cells_in rfl) (by simp [Value.oneCell', G.Req.enc]) (by decide) hm3.u hm4.u (Nat.zero_le _) _ rfl ?_)
 intro b cap w3 hown hg ho hlt
 obtain ⟨⟨d9, f9⟩, hA, hC⟩ := HH2.u.app (by decide) HL.u hown hg ho hlt
 have HF := J (ask_yes HB2.u hA hC (fun b hb => HH.u.lim b hb) HE0.u)
 clear hown hg ho hlt hA hC hc
 go_wp2_with fail
 go_ret2
 exact HF.u
end Go.Proofs.YtidonhndeohdlaaGreat
