/- Parts of this claim: FleH, BufI, BldP. -/
import Derived.Great.BuildSlice
import Derived.Test.YtoidcbpcnikejaaGreatDoorDq12
set_option linter.unusedVariables false
set_option linter.unusedSimpArgs false
set_option maxRecDepth 100000
set_option maxHeartbeats 12800000
namespace Go.Proofs.YtoidcbpcnikejaaGreatDoor
open Go.RowKit
def FleOut (T : TypeId) (S : Nat → Prop) (w : World) (g : Nat) (x : Value) (l : List G.Pod) (last most : Int) (e : Ending) (w' : World) : Prop :=
 e = .returned x ∧ (∃ v, FAt T S w' g v l last most) ∧ G.Chg S w w'
theorem fle_out {T : TypeId} {S : Nat → Prop} {w w' w1 : World} {g : Nat} {x x' v : Value} {l l' : List G.Pod} {last most : Int} (hb : Below w.heap.size w w1) (h : FAt T S w' g v l' last most) (hc : G.Chg S w1 w') (e : x' = x) (el : l' = l) : FleOut T S w g x l last most (.returned x') w' :=
 ⟨by rw [e], ⟨v, el ▸ h⟩, (G.Chg.of_below hb (Nat.le_refl _)).trans hc⟩
theorem fleTurn (S : Nat → Prop) (g : Nat) (v : Value) (l : List G.Pod) (last most id src dst : Int) (w : World) (h : FAt 227 S w g v l last most) :
  Calls Tryz.prog 137 #[.pointer (some ⟨g, 0, none⟩), .int .i64 id, .int .i64 src, .int .i64 dst] w (FleOut 227 S w g (.int .i64 (G.turnErr l id src)) (G.turnLst l id src dst) last most) := by
 have hs := h.small
 have HH := J h
 clear h
 go_enter Tryz.func137, Tryz.ntmps137
 go_wp2_with fail
 refine (fleFind S g v l last most id _ HH.u).mono ?_
 rintro e w1 ⟨rfl, hb1⟩
 have HB := J hb1
 clear hb1
 cases hf : G.findP l id with
 | none =>
  rw [idx_none]
  have HR := J (show FleOut 227 S w g (.int .i64 (G.turnErr l id src)) (G.turnLst l id src dst) last most (.returned (.int .i64 4)) w1 from fle_out HB.u (HH.u.below HB.u) (G.Chg.refl _ _) (by unfold G.turnErr; rw [hf]) (by unfold G.turnLst; rw [hf]))
  clear hf
  go_wp2_with fail
  go_ret
  exact HR.u
 | some i =>
  rw [idx_some]
  obtain ⟨p, hp, _⟩ := G.findP_some hf
  obtain ⟨b, cap, rfl, hS, _, _, hbl, c0, c1, c2, fz⟩ := (HH.u.below HB.u).pod hp
  have hc : w1.cell? ⟨g, 0, none⟩ = some (.slice (some ⟨b, 0, none⟩) l.length cap) := (HH.u.below HB.u).head.here rfl
  have hil := G.get_lt hp
  have i0 : (0 : Int) ≤ (i : Int) := by omega
  have i1 : (i : Int) < (l.length : Int) := by omega
  have f1 := fz (i * 3 + 1)
  by_cases q : p.state = src
  ·have p1 := (HH.u.below HB.u).put (by decide) (k := i) (j := 1) (r' := { p with state := dst }) (u := .int .i64 dst) hp (by decide) rfl
   have HR := J (show FleOut 227 S w g (.int .i64 (G.turnErr l id src)) (G.turnLst l id src dst) last most (.returned (.int .i64 0)) _ from fle_out HB.u p1.1 p1.2 (by unfold G.turnErr; rw [hf]; simp only [hp]; rw [if_pos q]) (by unfold G.turnLst; rw [hf]; simp only [hp]; rw [if_pos q]))
   have q2 : (p.state != src) = false := by simp [q]
   clear hf hp p1 c0 c2 fz q
   go_wp2_with fail
   go_ret
   exact HR.u
  have HR := J (show FleOut 227 S w g (.int .i64 (G.turnErr l id src)) (G.turnLst l id src dst) last most (.returned (.int .i64 7)) w1 from fle_out HB.u (HH.u.below HB.u) (G.Chg.refl _ _) (by unfold G.turnErr; rw [hf]; simp only [hp]; rw [if_neg q]) (by unfold G.turnLst; rw [hf]; simp only [hp]; rw [if_neg q]))
  have q2 : (p.state != src) = true := by simp [q]
  clear hf hp c0 c2 fz q f1
  go_wp2_with fail
  go_ret
  exact HR.u
theorem fleStart (S : Nat → Prop) (g : Nat) (v : Value) (l : List G.Pod) (last most id : Int) (w : World) (h : FAt 227 S w g v l last most) :
  Calls Tryz.prog 97 #[.pointer (some ⟨g, 0, none⟩), .int .i64 id] w (FleOut 227 S w g (.int .i64 (G.turnErr l id 1)) (G.turnLst l id 1 2) last most) := by
 have HH := J h
 clear h
 go_enter Tryz.func97, Tryz.ntmps97
 go_wp2_with fail
 refine (fleTurn S g v l last most id 1 2 _ HH.u).mono ?_
 rintro e w1 ⟨rfl, h1, c1⟩
 have HR := J (show FleOut 227 S w g (.int .i64 (G.turnErr l id 1)) (G.turnLst l id 1 2) last most (.returned (.int .i64 (G.turnErr l id 1))) w1 from ⟨rfl, h1, c1⟩)
 clear h1 c1
 go_wp2_with fail
 go_ret
 exact HR.u
theorem fleReady (S : Nat → Prop) (g : Nat) (v : Value) (l : List G.Pod) (last most id : Int) (w : World) (h : FAt 227 S w g v l last most) :
  Calls Tryz.prog 99 #[.pointer (some ⟨g, 0, none⟩), .int .i64 id] w (FleOut 227 S w g (.int .i64 (G.turnErr l id 2)) (G.turnLst l id 2 3) last most) := by
 have HH := J h
 clear h
 go_enter Tryz.func99, Tryz.ntmps99
 go_wp2_with fail
 refine (fleTurn S g v l last most id 2 3 _ HH.u).mono ?_
 rintro e w1 ⟨rfl, h1, c1⟩
 have HR := J (show FleOut 227 S w g (.int .i64 (G.turnErr l id 2)) (G.turnLst l id 2 3) last most (.returned (.int .i64 (G.turnErr l id 2))) w1 from ⟨rfl, h1, c1⟩)
 clear h1 c1
 go_wp2_with fail
 go_ret
 exact HR.u
theorem fleCrash (S : Nat → Prop) (g : Nat) (v : Value) (l : List G.Pod) (last most id : Int) (w : World) (h : FAt 227 S w g v l last most) :
  Calls Tryz.prog 138 #[.pointer (some ⟨g, 0, none⟩), .int .i64 id] w (FleOut 227 S w g (.tuple #[.int .i64 (G.crashNum l id), .int .i64 (G.crashErr l id)]) (G.crashLst l id) last most) := by
 have hs := h.small
 have HH := J h
 clear h
 go_enter Tryz.func138, Tryz.ntmps138
 go_wp2_with fail
 refine (fleFind S g v l last most id _ HH.u).mono ?_
 rintro e w1 ⟨rfl, hb1⟩
 have HB := J hb1
 clear hb1
 cases hf : G.findP l id with
 | none =>
  rw [idx_none]
  have HR := J (show FleOut 227 S w g (.tuple #[.int .i64 (G.crashNum l id), .int .i64 (G.crashErr l id)]) (G.crashLst l id) last most (.returned (.tuple #[.int .i64 0, .int .i64 4])) w1 from fle_out HB.u (HH.u.below HB.u) (G.Chg.refl _ _) (by unfold G.crashErr G.crashNum; rw [hf]) (by unfold G.crashLst; rw [hf]))
  clear hf
  go_wp2_with fail
  go_ret2
  exact HR.u
 | some i =>
  rw [idx_some]
  obtain ⟨p, hp, _⟩ := G.findP_some hf
  obtain ⟨b, cap, rfl, hS, _, _, hbl, c0, c1, c2, fz⟩ := (HH.u.below HB.u).pod hp
  have hc : w1.cell? ⟨g, 0, none⟩ = some (.slice (some ⟨b, 0, none⟩) l.length cap) := (HH.u.below HB.u).head.here rfl
  have hil := G.get_lt hp
  have i0 : (0 : Int) ≤ (i : Int) := by omega
  have i1 : (i : Int) < (l.length : Int) := by omega
  have HE := J (show G.crashErr l id = 0 ∧ G.crashNum l id = p.load ∧ G.crashLst l id = l.eraseIdx i by
   unfold G.crashErr G.crashNum G.crashLst; rw [hf]; exact ⟨rfl, by simp only; unfold G.loadAt; rw [hp]; rfl, rfl⟩)
  clear hf hp c0 c1 fz
  go_wp2_with fail
  refine (fleGone S g _ l last most i _ (HH.u.below HB.u) hil).mono ?_
  rintro e w2 ⟨⟨x, rfl⟩, ⟨v2, h2⟩, ch2⟩
  have HR := J (show FleOut 227 S w g (.tuple #[.int .i64 (G.crashNum l id), .int .i64 (G.crashErr l id)]) (G.crashLst l id) last most (.returned (.tuple #[.int .i64 p.load, .int .i64 0])) w2 from fle_out HB.u h2 ch2 (by rw [HE.u.1, HE.u.2.1]) HE.u.2.2.symm)
  clear h2 ch2 hc c2
  go_wp2_with fail
  go_ret2
  exact HR.u
theorem fleGive (S : Nat → Prop) (g : Nat) (v : Value) (l : List G.Pod) (last most : Int) (w : World) (h : FAt 227 S w g v l last most) (hm : most ≤ 1000) (hld : ∀ p ∈ l, 0 ≤ p.load) :
  Calls Tryz.prog 167 #[.pointer (some ⟨g, 0, none⟩)] w (FleOut 227 S w g (.tuple #[.int .i64 (G.giveNum l most), .int .i64 (G.giveErr l most)]) (G.giveLst l most) last most) := by
 have hs := h.small
 have HH := J h; have HLd := J hld
 clear h hld
 go_enter Tryz.func167, Tryz.ntmps167
 go_wp2_with fail
 refine (fleBest_lt S g v l last most 3 _ HH.u).mono ?_
 rintro e w1 ⟨rfl, hb1⟩
 have HB := J hb1
 clear hb1
 cases hf : G.best 3 G.ltLoad l with
 | none =>
  rw [idx_none]
  have hg : G.giveAt l most = none := by unfold G.giveAt; rw [hf]
  have HE := J (show G.giveErr l most = 4 ∧ G.giveNum l most = 0 ∧ G.giveLst l most = l by unfold G.giveErr G.giveNum G.giveLst; rw [hg]; exact ⟨rfl, rfl, rfl⟩)
  clear hf hg
  go_wp2_with fail
  go_quiet (fail)
  go_wp2_with fail
  go_ret2
  exact fle_out (fle_drewN HB.u _) (HH.u.below (fle_drewN HB.u _)) (G.Chg.refl _ _) (by rw [HE.u.1, HE.u.2.1] <;> rfl) HE.u.2.2.symm
 | some i =>
  rw [idx_some]
  obtain ⟨p, hp, _⟩ := G.best_at hf
  obtain ⟨b, cap, rfl, hS, _, _, hbl, c0, c1, c2, fz⟩ := (HH.u.below HB.u).pod hp
  have hc : w1.cell? ⟨g, 0, none⟩ = some (.slice (some ⟨b, 0, none⟩) l.length cap) := (HH.u.below HB.u).head.here rfl
  have hmo : w1.cell? ⟨g, 2, none⟩ = some (.int .i64 most) := (HH.u.below HB.u).head.here rfl
  have hil := G.get_lt hp
  have i0 : (0 : Int) ≤ (i : Int) := by omega
  have i1 : (i : Int) < (l.length : Int) := by omega
  have hla : G.loadAt l i = p.load := by unfold G.loadAt; rw [hp]; rfl
  have l0 := HLd.u p (List.mem_of_getElem? hp)
  have HP := J hp
  have HFz := J fz
  by_cases q : most ≤ p.load
  ·have hg : G.giveAt l most = none := by unfold G.giveAt; rw [hf]; simp only; rw [hla, if_pos q]
   have HE := J (show G.giveErr l most = 4 ∧ G.giveNum l most = 0 ∧ G.giveLst l most = l by unfold G.giveErr G.giveNum G.giveLst; rw [hg]; exact ⟨rfl, rfl, rfl⟩)
   clear hf hg hp hla fz c0 c1
   go_wp2_with fail
   go_quiet (fail)
   go_wp2_with fail
   go_ret2
   exact fle_out (fle_drewN HB.u _) (HH.u.below (fle_drewN HB.u _)) (G.Chg.refl _ _) (by rw [HE.u.1, HE.u.2.1] <;> rfl) HE.u.2.2.symm
  have q' : p.load < most := by omega
  have hg : G.giveAt l most = some i := by unfold G.giveAt; rw [hf]; simp only; rw [hla, if_neg q]
  have HE := J (show G.giveErr l most = 0 ∧ G.giveNum l most = p.id ∧ G.giveLst l most = l.set i { p with load := p.load + 1 } by unfold G.giveErr G.giveNum G.giveLst; rw [hg]; simp only [HP.u]; exact ⟨trivial, rfl, trivial⟩)
  clear hf hg hp hla fz c1 q
  go_wp2_with fail
  go_quiet (fail)
  have f2 := HFz.u (i * 3 + 2)
  have HW := J (HH.u.below (fle_drewN HB.u nq))
  obtain ⟨W, hW⟩ : ∃ W, Hid (w1.drewN nq = W) := ⟨_, J rfl⟩
  have HBW := J (fle_drewN HB.u nq)
  rw [hW.u] at HW HBW
  have p1 := HW.u.put (by decide) (k := i) (j := 2) (r' := { p with load := p.load + 1 }) (u := .int .i64 (p.load + 1)) HP.u (by decide) rfl
  have P1 := J p1
  clear p1
  rw [hW.u]
  have hcW := HW.u.head.here (i := 0) rfl
  obtain ⟨b', cap', e, _, _, _, _, _, _, d2, fz⟩ := HW.u.pod HP.u
  cases e
  have f2W := fz (i * 3 + 2)
  have hcP : (W.setCell ⟨b, i * 3 + 2, none⟩ (.int .i64 (p.load + 1))).cell? ⟨g, 0, none⟩ = some (.slice (some ⟨b, 0, none⟩) l.length cap) := P1.u.1.head.here rfl
  obtain ⟨b', cap', e, _, _, _, _, e0, _, _, _⟩ := P1.u.1.pod (List.getElem?_set_self hil)
  rw [List.length_set] at e
  cases e
  have HE0 := J (fle_out HBW.u P1.u.1 P1.u.2 (x := .tuple #[.int .i64 (G.giveNum l most), .int .i64 (G.giveErr l most)]) (l := G.giveLst l most) (x' := .tuple #[.int .i64 p.id, .int .i64 0]) (by rw [HE.u.1, HE.u.2.1]) HE.u.2.2.symm)
  clear hc hmo c0 c2 f2 fz hW
  go_wp2_with fail
  go_ret2
  exact HE0.u
theorem fleDone (S : Nat → Prop) (g : Nat) (v : Value) (l : List G.Pod) (last most id : Int) (w : World) (h : FAt 227 S w g v l last most) (hld : ∀ p ∈ l, 0 ≤ p.load ∧ p.load ≤ 1000) :
  Calls Tryz.prog 142 #[.pointer (some ⟨g, 0, none⟩), .int .i64 id] w (FleOut 227 S w g (.int .i64 (G.podDoneErr l id)) (G.podDoneLst l id) last most) := by
 have hs := h.small
 have HH := J h; have HLd := J hld
 clear h hld
 go_enter Tryz.func142, Tryz.ntmps142
 go_wp2_with fail
 refine (fleFind S g v l last most id _ HH.u).mono ?_
 rintro e w1 ⟨rfl, hb1⟩
 have HB := J hb1
 clear hb1
 cases hf : G.findP l id with
 | none =>
  rw [idx_none]
  have HR := J (show FleOut 227 S w g (.int .i64 (G.podDoneErr l id)) (G.podDoneLst l id) last most (.returned (.int .i64 4)) w1 from fle_out HB.u (HH.u.below HB.u) (G.Chg.refl _ _) (by unfold G.podDoneErr; rw [hf]) (by unfold G.podDoneLst; rw [hf]))
  clear hf
  go_wp2_with fail
  go_ret
  exact HR.u
 | some i =>
  rw [idx_some]
  obtain ⟨p, hp, _⟩ := G.findP_some hf
  obtain ⟨b, cap, rfl, hS, _, _, hbl, c0, c1, c2, fz⟩ := (HH.u.below HB.u).pod hp
  have hc : w1.cell? ⟨g, 0, none⟩ = some (.slice (some ⟨b, 0, none⟩) l.length cap) := (HH.u.below HB.u).head.here rfl
  have hil := G.get_lt hp
  have i0 : (0 : Int) ≤ (i : Int) := by omega
  have i1 : (i : Int) < (l.length : Int) := by omega
  have hla : G.loadAt l i = p.load := by unfold G.loadAt; rw [hp]; rfl
  have l0 := (HLd.u p (List.mem_of_getElem? hp)).1
  have l1 := (HLd.u p (List.mem_of_getElem? hp)).2
  have f2 := fz (i * 3 + 2)
  have HP := J hp
  by_cases q : p.load = 0
  ·have HR := J (show FleOut 227 S w g (.int .i64 (G.podDoneErr l id)) (G.podDoneLst l id) last most (.returned (.int .i64 7)) w1 from fle_out HB.u (HH.u.below HB.u) (G.Chg.refl _ _) (by unfold G.podDoneErr; rw [hf]; simp only; rw [hla, if_pos q]) (by unfold G.podDoneLst; rw [hf]; simp only [hp]; rw [if_pos q]))
   rw [q] at c2
   clear hf hp hla c0 c1 fz f2 q l0 l1
   go_wp2_with fail
   go_ret
   exact HR.u
  have q2 : (p.load == 0) = false := by simp only [beq_eq_false_iff_ne]; exact q
  have q3 : 1 ≤ p.load := by omega
  have p1 := (HH.u.below HB.u).put (by decide) (k := i) (j := 2) (r' := { p with load := p.load - 1 }) (u := .int .i64 (p.load - 1)) hp (by decide) rfl
  have P1 := J p1
  have HErr := J (show G.podDoneErr l id = 0 by unfold G.podDoneErr; rw [hf]; simp only; rw [hla, if_neg q])
  have HLst := J (show G.podDoneLst l id = if p.state = 4 ∧ p.load - 1 = 0 then l.eraseIdx i else l.set i { p with load := p.load - 1 } by unfold G.podDoneLst; rw [hf]; simp only [hp]; rw [if_neg q])
  have hcP : (w1.setCell ⟨b, i * 3 + 2, none⟩ (.int .i64 (p.load - 1))).cell? ⟨g, 0, none⟩ = some (.slice (some ⟨b, 0, none⟩) l.length cap) := p1.1.head.here rfl
  obtain ⟨b', cap', e, _, _, _, _, e0, e1, e2, _⟩ := p1.1.pod (List.getElem?_set_self hil)
  rw [List.length_set] at e
  cases e
  have HE1 := J e1; have HE2 := J e2
  clear p1 hf hp hla c0 c1 fz q e0 e1 e2 hcP
  go_upto_region 7 with fail
  have hcP : (w1.setCell ⟨b, i * 3 + 2, none⟩ (.int .i64 (p.load - 1))).cell? ⟨g, 0, none⟩ = some (.slice (some ⟨b, 0, none⟩) l.length cap) := P1.u.1.head.here rfl
  have e1 := HE1.u; have e2 := HE2.u
  have q4 : 0 ≤ p.load - 1 := by omega
  clear f2 c2 q2 q3 l0 l1 hc
  obtain ⟨W, hW⟩ : ∃ W, Hid (w1.setCell ⟨b, i * 3 + 2, none⟩ (.int .i64 (p.load - 1)) = W) := ⟨_, J rfl⟩
  rw [hW.u] at P1 hcP e1 e2 ⊢
  clear hW HE1 HE2
  generalize p.load - 1 = pl at P1 HLst e2 q4 ⊢
  by_cases d : p.state = 4
  ·by_cases d2 : pl = 0
   ·have HR0 := J (show G.podDoneLst l id = (l.set i ⟨p.id, p.state, pl⟩).eraseIdx i by rw [HLst.u, if_pos ⟨d, d2⟩, List.eraseIdx_set_eq])
    rw [d] at e1
    rw [d2] at e2
    clear d d2 q4
    go_wp2_with fail
    refine (fleGone S g _ _ last most i _ P1.u.1 (by rw [List.length_set]; exact hil)).mono ?_
    rintro e w2 ⟨⟨x, rfl⟩, ⟨v2, h2⟩, ch2⟩
    have HR := J (show FleOut 227 S w g (.int .i64 (G.podDoneErr l id)) (G.podDoneLst l id) last most (.returned (.int .i64 0)) w2 from fle_out HB.u h2 (P1.u.2.trans ch2) (by rw [HErr.u]) HR0.u.symm)
    clear h2 ch2 hcP e1 e2
    go_wp2_with fail
    go_ret
    exact HR.u
   have d3 : (pl == 0) = false := by simp only [beq_eq_false_iff_ne]; exact d2
   have HR := J (show FleOut 227 S w g (.int .i64 (G.podDoneErr l id)) (G.podDoneLst l id) last most (.returned (.int .i64 0)) W from fle_out HB.u P1.u.1 P1.u.2 (by rw [HErr.u]) (by rw [HLst.u, if_neg (fun c => d2 c.2)]))
   rw [d] at e1
   clear d d2
   go_wp2_with fail
   go_ret
   exact HR.u
  have d3 : (p.state == 4) = false := by simp only [beq_eq_false_iff_ne]; exact d
  have HR := J (show FleOut 227 S w g (.int .i64 (G.podDoneErr l id)) (G.podDoneLst l id) last most (.returned (.int .i64 0)) W from fle_out HB.u P1.u.1 P1.u.2 (by rw [HErr.u]) (by rw [HLst.u, if_neg (fun c => d c.1)]))
  clear d
  go_wp2_with fail
  go_ret
  exact HR.u
def mostOf (n : Int) : Int := min (max n 1) 100
def FleNewPost (T : TypeId) (w : World) (most : Int) (e : Ending) (w' : World) : Prop := ∃ g, e = .returned (.pointer (some ⟨g, 0, none⟩)) ∧ FAt T (G.Plus (fun _ => False) w w') w' g (.slice none 0 0) [] 0 most ∧ Below w.heap.size w w'
theorem fnew_made (T : TypeId) (w : World) (most : Int) : FleNewPost T w most (.returned (.pointer (some ⟨w.heap.size, 0, none⟩))) (w.alloc (.cells #[.slice none 0 0, .int .i64 0, .int .i64 most] T)) :=
 ⟨_, rfl, ⟨G.At.made w _ _, G.OwnRow.nil _ _ _ _, .inr ⟨Nat.le_refl _, by simp⟩, by simp, fun b hb => by rcases hb with hb | hb; exact hb.elim; exact hb.2⟩, (Below.refl _ _).alloc (Nat.le_refl _) _⟩
theorem fleNew (n : Int) (w : World) : Calls Tryz.prog 81 #[.int .i64 n] w (FleNewPost 227 w (mostOf n)) := by
 have HF := J (fnew_made 227 w (mostOf n))
 by_cases h1 : n < 1
 ·have HE := J (show mostOf n = 1 by unfold mostOf; omega)
  rw [HE.u] at HF
  rw [HE.u]
  have h2 : n ≤ 1 := by omega
  go_enter Tryz.func81, Tryz.ntmps81
  go_wp2_with fail
  go_ret
  exact HF.u
 by_cases h2 : 100 < n
 ·have HE := J (show mostOf n = 100 by unfold mostOf; omega)
  rw [HE.u] at HF
  rw [HE.u]
  have h3 : 1 < n := by omega
  clear h1
  go_enter Tryz.func81, Tryz.ntmps81
  go_wp2_with fail
  go_ret
  exact HF.u
 have HE := J (show mostOf n = n by unfold mostOf; omega)
 rw [HE.u] at HF
 rw [HE.u]
 have h3 : 1 ≤ n := by omega
 have h4 : n ≤ 100 := by omega
 clear h1 h2
 go_enter Tryz.func81, Tryz.ntmps81
 go_wp2_with fail
 go_ret
 exact HF.u
open Go.RowKit
def BufNewPost (T : TypeId) (w : World) (e : Ending) (w' : World) : Prop := ∃ g, e = .returned (.pointer (some ⟨g, 0, none⟩)) ∧ BAt T (G.Plus (fun _ => False) w w') w' g (.slice none 0 0) [] ∧ Below w.heap.size w w'
theorem bufNew (w : World) : Calls Tryz.prog 82 #[] w (BufNewPost 229 w) := by
 have HF := J (show BufNewPost 229 w (.returned (.pointer (some ⟨w.heap.size, 0, none⟩))) (w.alloc (.cells #[.slice none 0 0] 229)) from
  ⟨_, rfl, ⟨G.At.made w _ _, G.OwnRow.nil _ _ _ _, .inr ⟨Nat.le_refl _, by simp⟩, by simp, fun b hb => by rcases hb with hb | hb; exact hb.elim; exact hb.2⟩, (Below.refl _ _).alloc (Nat.le_refl _) _⟩)
 go_enter Tryz.func82, Tryz.ntmps82
 go_wp2_with fail
 go_ret
 exact HF.u
open Go.RowKit
theorem build_law {P : Program} {ops : Array Oper} {rest : List Oper} {o : Oper} {a : Act} {w : World} {Q : Exit → Act → World → Prop} (hg : o.guard = none) (t : TypeId) (parts : Array (Nat × Operand)) (ho : o.op = .build t parts) (l : List (Nat × Value)) (hp : parts.toList.map (fun y => (y.1, a.eval y.2)) = l)
  (cells : Array Value) (h : P.built t l = some cells) (k : wpList P ops Q rest (a.put o.dst (.agg cells)) w) : wpList P ops Q (o :: rest) a w :=
 wpList_plain hg fun _ hK => by
  subst hp
  rw [← Array.toList_map] at h
  unfold Oper.wp execOp
  simp only [ho, Sem.run_bind, Sem.run_pure, run_build w t _ cells h, Result.andThen_ok]
  exact hK _ _ k
theorem bslice_law {P : Program} {ops : Array Oper} {rest : List Oper} {o : Oper} {a : Act} {w : World} {Q : Exit → Act → World → Prop} (hg : o.guard = none) (t e : TypeId) (len : Nat) (parts : Array (Nat × Operand)) (ho : o.op = .buildSlice t len parts) (l : List (Nat × Value)) (hp : parts.toList.map (fun y => (y.1, a.eval y.2)) = l)
  (cells : Array Value) (ie : TypeInfo) (z : Value) (hu : P.underlying t = some (.slice e)) (hie : P.info? e = some ie) (hz : ie.zero = some z) (hsmall : ¬ len * ie.size > 2 ^ 24) (hpos : ¬ len * ie.size = 0)
  (hf : Instr.fill (fun i => some (i * ie.size, ie.size)) ((Array.range (len * ie.size)).map (z.cells[· % z.cells.size]!)) l = some cells)
  (k : wpList P ops Q rest (a.put o.dst (.slice (some ⟨w.heap.size, 0, none⟩) len len)) (w.alloc (.cells cells e))) : wpList P ops Q (o :: rest) a w := by
 subst hp
 rw [← Array.toList_map] at hf
 exact wpList_buildSlice hg t e len parts ho cells ie z hu hie hz hsmall hpos hf k
theorem info_two {i : Option TypeInfo} {z : Option Value} {s : Nat} (h : i.map (fun i => (i.zero, i.size)) = some (z, s)) : ∃ j, i = some j ∧ j.zero = z ∧ j.size = s := by
 cases i with
 | none => cases h
 | some j => simp only [Option.map_some, Option.some.injEq, Prod.mk.injEq] at h; exact ⟨j, rfl, h.1, h.2⟩
end Go.Proofs.YtoidcbpcnikejaaGreatDoor
