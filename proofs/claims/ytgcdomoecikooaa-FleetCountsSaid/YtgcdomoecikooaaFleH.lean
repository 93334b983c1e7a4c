/- The contracts of Start, Ready, Crash, Give, Done, New. -/
import Derived.Test.YtgcdomoecikooaaFleG
namespace Go.Proofs.Ytgcdomoecikooaa
open Go.RowKit
set_option linter.unusedVariables false
def FleOut (T : TypeId) (S : Nat → Prop) (w : World) (g : Nat) (x : Value) (l : List Tide.Pod) (last most : Int) (e : Ending) (w' : World) : Prop :=
  e = .returned x ∧ (∃ v, FAt T S w' g v l last most) ∧ Tide.Chg S w w'
theorem fle_out {T : TypeId} {S : Nat → Prop} {w w' w1 : World} {g : Nat} {x x' v : Value} {l l' : List Tide.Pod} {last most : Int} (hb : Below w.heap.size w w1) (h : FAt T S w' g v l' last most) (hc : Tide.Chg S w1 w') (e : x' = x) (el : l' = l) : FleOut T S w g x l last most (.returned x') w' :=
  ⟨by rw [e], ⟨v, el ▸ h⟩, (Tide.Chg.of_below hb (Nat.le_refl _)).trans hc⟩
theorem findP_lt {l : List Tide.Pod} {id : Int} {i : Nat} (h : Tide.findP l id = some i) : i < l.length := by obtain ⟨p, hp, _⟩ := Tide.findP_some h; exact Tide.get_lt hp
set_option maxRecDepth 100000 in
set_option maxHeartbeats 3200000 in
theorem fleTurn (S : Nat → Prop) (g : Nat) (v : Value) (l : List Tide.Pod) (last most id src dst : Int) (w : World) (h : FAt 88 S w g v l last most) :
    Calls Try.prog 62 #[.pointer (some ⟨g, 0, none⟩), .int .i64 id, .int .i64 src, .int .i64 dst] w (FleOut 88 S w g (.int .i64 (Tide.turnErr l id src)) (Tide.turnLst l id src dst) last most) := by
  have hs := h.small
  have HH := Lib.hid h
  clear h
  go_enter Try.func62, Try.ntmps62
  go_wp2_with fail
  refine (fleFind S g v l last most id _ HH.out).mono ?_
  rintro e w1 ⟨rfl, hb1⟩
  have HB := Lib.hid hb1
  clear hb1
  cases hf : Tide.findP l id with
  | none =>
    rw [idx_none]
    have HR := Lib.hid (show FleOut 88 S w g (.int .i64 (Tide.turnErr l id src)) (Tide.turnLst l id src dst) last most (.returned (.int .i64 4)) w1 from fle_out HB.out (HH.out.below HB.out) (Tide.Chg.refl _ _) (by unfold Tide.turnErr; rw [hf]) (by unfold Tide.turnLst; rw [hf]))
    clear hf
    go_wp2_with fail
    go_ret
    exact HR.out
  | some i =>
    rw [idx_some]
    obtain ⟨p, hp, _⟩ := Tide.findP_some hf
    obtain ⟨b, cap, rfl, hS, _, _, hbl, c0, c1, c2, fz⟩ := (HH.out.below HB.out).pod hp
    have hc : w1.cell? ⟨g, 0, none⟩ = some (.slice (some ⟨b, 0, none⟩) l.length cap) := (HH.out.below HB.out).head.here rfl
    have hil := Tide.get_lt hp
    have i0 : (0 : Int) ≤ (i : Int) := by omega
    have i1 : (i : Int) < (l.length : Int) := by omega
    have f1 := fz (i * 3 + 1)
    by_cases q : p.state = src
    · have p1 := (HH.out.below HB.out).put (by decide) (k := i) (j := 1) (r' := { p with state := dst }) (u := .int .i64 dst) hp (by decide) rfl
      have HR := Lib.hid (show FleOut 88 S w g (.int .i64 (Tide.turnErr l id src)) (Tide.turnLst l id src dst) last most (.returned (.int .i64 0)) _ from fle_out HB.out p1.1 p1.2 (by unfold Tide.turnErr; rw [hf]; simp only [hp]; rw [if_pos q]) (by unfold Tide.turnLst; rw [hf]; simp only [hp]; rw [if_pos q]))
      have q2 : (p.state != src) = false := by simp [q]
      clear hf hp p1 c0 c2 fz q
      go_wp2_with fail
      go_ret
      exact HR.out
    · have HR := Lib.hid (show FleOut 88 S w g (.int .i64 (Tide.turnErr l id src)) (Tide.turnLst l id src dst) last most (.returned (.int .i64 7)) w1 from fle_out HB.out (HH.out.below HB.out) (Tide.Chg.refl _ _) (by unfold Tide.turnErr; rw [hf]; simp only [hp]; rw [if_neg q]) (by unfold Tide.turnLst; rw [hf]; simp only [hp]; rw [if_neg q]))
      have q2 : (p.state != src) = true := by simp [q]
      clear hf hp c0 c2 fz q f1
      go_wp2_with fail
      go_ret
      exact HR.out
set_option maxHeartbeats 800000 in
theorem fleStart (S : Nat → Prop) (g : Nat) (v : Value) (l : List Tide.Pod) (last most id : Int) (w : World) (h : FAt 88 S w g v l last most) :
    Calls Try.prog 32 #[.pointer (some ⟨g, 0, none⟩), .int .i64 id] w (FleOut 88 S w g (.int .i64 (Tide.turnErr l id 1)) (Tide.turnLst l id 1 2) last most) := by
  have HH := Lib.hid h
  clear h
  go_enter Try.func32, Try.ntmps32
  go_wp2_with fail
  refine (fleTurn S g v l last most id 1 2 _ HH.out).mono ?_
  rintro e w1 ⟨rfl, h1, c1⟩
  have HR := Lib.hid (show FleOut 88 S w g (.int .i64 (Tide.turnErr l id 1)) (Tide.turnLst l id 1 2) last most (.returned (.int .i64 (Tide.turnErr l id 1))) w1 from ⟨rfl, h1, c1⟩)
  clear h1 c1
  go_wp2_with fail
  go_ret
  exact HR.out
set_option maxHeartbeats 800000 in
theorem fleReady (S : Nat → Prop) (g : Nat) (v : Value) (l : List Tide.Pod) (last most id : Int) (w : World) (h : FAt 88 S w g v l last most) :
    Calls Try.prog 33 #[.pointer (some ⟨g, 0, none⟩), .int .i64 id] w (FleOut 88 S w g (.int .i64 (Tide.turnErr l id 2)) (Tide.turnLst l id 2 3) last most) := by
  have HH := Lib.hid h
  clear h
  go_enter Try.func33, Try.ntmps33
  go_wp2_with fail
  refine (fleTurn S g v l last most id 2 3 _ HH.out).mono ?_
  rintro e w1 ⟨rfl, h1, c1⟩
  have HR := Lib.hid (show FleOut 88 S w g (.int .i64 (Tide.turnErr l id 2)) (Tide.turnLst l id 2 3) last most (.returned (.int .i64 (Tide.turnErr l id 2))) w1 from ⟨rfl, h1, c1⟩)
  clear h1 c1
  go_wp2_with fail
  go_ret
  exact HR.out
set_option maxRecDepth 100000 in
set_option maxHeartbeats 3200000 in
theorem fleCrash (S : Nat → Prop) (g : Nat) (v : Value) (l : List Tide.Pod) (last most id : Int) (w : World) (h : FAt 88 S w g v l last most) :
    Calls Try.prog 38 #[.pointer (some ⟨g, 0, none⟩), .int .i64 id] w (FleOut 88 S w g (.tuple #[.int .i64 (Tide.crashNum l id), .int .i64 (Tide.crashErr l id)]) (Tide.crashLst l id) last most) := by
  have hs := h.small
  have HH := Lib.hid h
  clear h
  go_enter Try.func38, Try.ntmps38
  go_wp2_with fail
  refine (fleFind S g v l last most id _ HH.out).mono ?_
  rintro e w1 ⟨rfl, hb1⟩
  have HB := Lib.hid hb1
  clear hb1
  cases hf : Tide.findP l id with
  | none =>
    rw [idx_none]
    have HR := Lib.hid (show FleOut 88 S w g (.tuple #[.int .i64 (Tide.crashNum l id), .int .i64 (Tide.crashErr l id)]) (Tide.crashLst l id) last most (.returned (.tuple #[.int .i64 0, .int .i64 4])) w1 from fle_out HB.out (HH.out.below HB.out) (Tide.Chg.refl _ _) (by unfold Tide.crashErr Tide.crashNum; rw [hf]) (by unfold Tide.crashLst; rw [hf]))
    clear hf
    go_wp2_with fail
    go_ret2
    exact HR.out
  | some i =>
    rw [idx_some]
    obtain ⟨p, hp, _⟩ := Tide.findP_some hf
    obtain ⟨b, cap, rfl, hS, _, _, hbl, c0, c1, c2, fz⟩ := (HH.out.below HB.out).pod hp
    have hc : w1.cell? ⟨g, 0, none⟩ = some (.slice (some ⟨b, 0, none⟩) l.length cap) := (HH.out.below HB.out).head.here rfl
    have hil := Tide.get_lt hp
    have i0 : (0 : Int) ≤ (i : Int) := by omega
    have i1 : (i : Int) < (l.length : Int) := by omega
    have HE := Lib.hid (show Tide.crashErr l id = 0 ∧ Tide.crashNum l id = p.load ∧ Tide.crashLst l id = l.eraseIdx i by
      unfold Tide.crashErr Tide.crashNum Tide.crashLst; rw [hf]; exact ⟨rfl, by simp only; unfold Tide.loadAt; rw [hp]; rfl, rfl⟩)
    clear hf hp c0 c1 fz
    go_wp2_with fail
    refine (fleGone S g _ l last most i _ (HH.out.below HB.out) hil).mono ?_
    rintro e w2 ⟨⟨x, rfl⟩, ⟨v2, h2⟩, ch2⟩
    have HR := Lib.hid (show FleOut 88 S w g (.tuple #[.int .i64 (Tide.crashNum l id), .int .i64 (Tide.crashErr l id)]) (Tide.crashLst l id) last most (.returned (.tuple #[.int .i64 p.load, .int .i64 0])) w2 from fle_out HB.out h2 ch2 (by rw [HE.out.1, HE.out.2.1]) HE.out.2.2.symm)
    clear h2 ch2 hc c2
    go_wp2_with fail
    go_ret2
    exact HR.out
set_option maxRecDepth 100000 in
set_option maxHeartbeats 3200000 in
theorem fleGive (S : Nat → Prop) (g : Nat) (v : Value) (l : List Tide.Pod) (last most : Int) (w : World) (h : FAt 88 S w g v l last most) (hm : most ≤ 1000) (hld : ∀ p ∈ l, 0 ≤ p.load) :
    Calls Try.prog 34 #[.pointer (some ⟨g, 0, none⟩)] w (FleOut 88 S w g (.tuple #[.int .i64 (Tide.giveNum l most), .int .i64 (Tide.giveErr l most)]) (Tide.giveLst l most) last most) := by
  have hs := h.small
  have HH := Lib.hid h; have HLd := Lib.hid hld
  clear h hld
  go_enter Try.func34, Try.ntmps34
  go_wp2_with fail
  refine (fleBest_lt S g v l last most 3 _ HH.out).mono ?_
  rintro e w1 ⟨rfl, hb1⟩
  have HB := Lib.hid hb1
  clear hb1
  cases hf : Tide.best 3 Tide.ltLoad l with
  | none =>
    rw [idx_none]
    have hg : Tide.giveAt l most = none := by unfold Tide.giveAt; rw [hf]
    have HE := Lib.hid (show Tide.giveErr l most = 4 ∧ Tide.giveNum l most = 0 ∧ Tide.giveLst l most = l by unfold Tide.giveErr Tide.giveNum Tide.giveLst; rw [hg]; exact ⟨rfl, rfl, rfl⟩)
    clear hf hg
    go_wp2_with fail
    go_quiet (fail)
    go_wp2_with fail
    go_ret2
    exact fle_out (fle_drewN HB.out _) (HH.out.below (fle_drewN HB.out _)) (Tide.Chg.refl _ _) (by rw [HE.out.1, HE.out.2.1] <;> rfl) HE.out.2.2.symm
  | some i =>
    rw [idx_some]
    obtain ⟨p, hp, _⟩ := Tide.best_at hf
    obtain ⟨b, cap, rfl, hS, _, _, hbl, c0, c1, c2, fz⟩ := (HH.out.below HB.out).pod hp
    have hc : w1.cell? ⟨g, 0, none⟩ = some (.slice (some ⟨b, 0, none⟩) l.length cap) := (HH.out.below HB.out).head.here rfl
    have hmo : w1.cell? ⟨g, 2, none⟩ = some (.int .i64 most) := (HH.out.below HB.out).head.here rfl
    have hil := Tide.get_lt hp
    have i0 : (0 : Int) ≤ (i : Int) := by omega
    have i1 : (i : Int) < (l.length : Int) := by omega
    have hla : Tide.loadAt l i = p.load := by unfold Tide.loadAt; rw [hp]; rfl
    have l0 := HLd.out p (List.mem_of_getElem? hp)
    have HP := Lib.hid hp
    have HFz := Lib.hid fz
    by_cases q : most ≤ p.load
    · have hg : Tide.giveAt l most = none := by unfold Tide.giveAt; rw [hf]; simp only; rw [hla, if_pos q]
      have HE := Lib.hid (show Tide.giveErr l most = 4 ∧ Tide.giveNum l most = 0 ∧ Tide.giveLst l most = l by unfold Tide.giveErr Tide.giveNum Tide.giveLst; rw [hg]; exact ⟨rfl, rfl, rfl⟩)
      clear hf hg hp hla fz c0 c1
      go_wp2_with fail
      go_quiet (fail)
      go_wp2_with fail
      go_ret2
      exact fle_out (fle_drewN HB.out _) (HH.out.below (fle_drewN HB.out _)) (Tide.Chg.refl _ _) (by rw [HE.out.1, HE.out.2.1] <;> rfl) HE.out.2.2.symm
    · have q' : p.load < most := by omega
      have hg : Tide.giveAt l most = some i := by unfold Tide.giveAt; rw [hf]; simp only; rw [hla, if_neg q]
      have HE := Lib.hid (show Tide.giveErr l most = 0 ∧ Tide.giveNum l most = p.id ∧ Tide.giveLst l most = l.set i { p with load := p.load + 1 } by unfold Tide.giveErr Tide.giveNum Tide.giveLst; rw [hg]; simp only [HP.out]; exact ⟨trivial, rfl, trivial⟩)
      clear hf hg hp hla fz c1 q
      go_wp2_with fail
      go_quiet (fail)
      have f2 := HFz.out (i * 3 + 2)
      have HW := Lib.hid (HH.out.below (fle_drewN HB.out nq))
      obtain ⟨W, hW⟩ : ∃ W, Hid (w1.drewN nq = W) := ⟨_, Lib.hid rfl⟩
      have HBW := Lib.hid (fle_drewN HB.out nq)
      rw [hW.out] at HW HBW
      have p1 := HW.out.put (by decide) (k := i) (j := 2) (r' := { p with load := p.load + 1 }) (u := .int .i64 (p.load + 1)) HP.out (by decide) rfl
      have P1 := Lib.hid p1
      clear p1
      rw [hW.out]
      have hcW : W.cell? ⟨g, 0, none⟩ = some (.slice (some ⟨b, 0, none⟩) l.length cap) := HW.out.head.here rfl
      obtain ⟨b', cap', e, _, _, _, _, _, _, d2, fz⟩ := HW.out.pod HP.out
      cases e
      have f2W := fz (i * 3 + 2)
      have hcP : (W.setCell ⟨b, i * 3 + 2, none⟩ (.int .i64 (p.load + 1))).cell? ⟨g, 0, none⟩ = some (.slice (some ⟨b, 0, none⟩) l.length cap) := P1.out.1.head.here rfl
      obtain ⟨b', cap', e, _, _, _, _, e0, _, _, _⟩ := P1.out.1.pod (List.getElem?_set_self hil)
      rw [List.length_set] at e
      cases e
      have HE0 := Lib.hid (fle_out HBW.out P1.out.1 P1.out.2 (x := .tuple #[.int .i64 (Tide.giveNum l most), .int .i64 (Tide.giveErr l most)]) (l := Tide.giveLst l most) (x' := .tuple #[.int .i64 p.id, .int .i64 0]) (by rw [HE.out.1, HE.out.2.1]) HE.out.2.2.symm)
      clear hc hmo c0 c2 f2 fz hW
      go_wp2_with fail
      go_ret2
      exact HE0.out
set_option maxRecDepth 100000 in
set_option maxHeartbeats 3200000 in
theorem fleDone (S : Nat → Prop) (g : Nat) (v : Value) (l : List Tide.Pod) (last most id : Int) (w : World) (h : FAt 88 S w g v l last most) (hld : ∀ p ∈ l, 0 ≤ p.load ∧ p.load ≤ 1000) :
    Calls Try.prog 36 #[.pointer (some ⟨g, 0, none⟩), .int .i64 id] w (FleOut 88 S w g (.int .i64 (Tide.podDoneErr l id)) (Tide.podDoneLst l id) last most) := by
  have hs := h.small
  have HH := Lib.hid h; have HLd := Lib.hid hld
  clear h hld
  go_enter Try.func36, Try.ntmps36
  go_wp2_with fail
  refine (fleFind S g v l last most id _ HH.out).mono ?_
  rintro e w1 ⟨rfl, hb1⟩
  have HB := Lib.hid hb1
  clear hb1
  cases hf : Tide.findP l id with
  | none =>
    rw [idx_none]
    have HR := Lib.hid (show FleOut 88 S w g (.int .i64 (Tide.podDoneErr l id)) (Tide.podDoneLst l id) last most (.returned (.int .i64 4)) w1 from fle_out HB.out (HH.out.below HB.out) (Tide.Chg.refl _ _) (by unfold Tide.podDoneErr; rw [hf]) (by unfold Tide.podDoneLst; rw [hf]))
    clear hf
    go_wp2_with fail
    go_ret
    exact HR.out
  | some i =>
    rw [idx_some]
    obtain ⟨p, hp, _⟩ := Tide.findP_some hf
    obtain ⟨b, cap, rfl, hS, _, _, hbl, c0, c1, c2, fz⟩ := (HH.out.below HB.out).pod hp
    have hc : w1.cell? ⟨g, 0, none⟩ = some (.slice (some ⟨b, 0, none⟩) l.length cap) := (HH.out.below HB.out).head.here rfl
    have hil := Tide.get_lt hp
    have i0 : (0 : Int) ≤ (i : Int) := by omega
    have i1 : (i : Int) < (l.length : Int) := by omega
    have hla : Tide.loadAt l i = p.load := by unfold Tide.loadAt; rw [hp]; rfl
    have l0 := (HLd.out p (List.mem_of_getElem? hp)).1
    have l1 := (HLd.out p (List.mem_of_getElem? hp)).2
    have f2 := fz (i * 3 + 2)
    have HP := Lib.hid hp
    by_cases q : p.load = 0
    · have HR := Lib.hid (show FleOut 88 S w g (.int .i64 (Tide.podDoneErr l id)) (Tide.podDoneLst l id) last most (.returned (.int .i64 7)) w1 from fle_out HB.out (HH.out.below HB.out) (Tide.Chg.refl _ _) (by unfold Tide.podDoneErr; rw [hf]; simp only; rw [hla, if_pos q]) (by unfold Tide.podDoneLst; rw [hf]; simp only [hp]; rw [if_pos q]))
      rw [q] at c2
      clear hf hp hla c0 c1 fz f2 q l0 l1
      go_wp2_with fail
      go_ret
      exact HR.out
    · have q2 : (p.load == 0) = false := by simp only [beq_eq_false_iff_ne]; exact q
      have q3 : 1 ≤ p.load := by omega
      have p1 := (HH.out.below HB.out).put (by decide) (k := i) (j := 2) (r' := { p with load := p.load - 1 }) (u := .int .i64 (p.load - 1)) hp (by decide) rfl
      have P1 := Lib.hid p1
      have HErr := Lib.hid (show Tide.podDoneErr l id = 0 by unfold Tide.podDoneErr; rw [hf]; simp only; rw [hla, if_neg q])
      have HLst := Lib.hid (show Tide.podDoneLst l id = if p.state = 4 ∧ p.load - 1 = 0 then l.eraseIdx i else l.set i { p with load := p.load - 1 } by unfold Tide.podDoneLst; rw [hf]; simp only [hp]; rw [if_neg q])
      have hcP : (w1.setCell ⟨b, i * 3 + 2, none⟩ (.int .i64 (p.load - 1))).cell? ⟨g, 0, none⟩ = some (.slice (some ⟨b, 0, none⟩) l.length cap) := p1.1.head.here rfl
      obtain ⟨b', cap', e, _, _, _, _, e0, e1, e2, _⟩ := p1.1.pod (List.getElem?_set_self hil)
      rw [List.length_set] at e
      cases e
      have HE1 := Lib.hid e1; have HE2 := Lib.hid e2
      clear p1 hf hp hla c0 c1 fz q e0 e1 e2 hcP
      go_upto_region 7 with fail
      have hcP : (w1.setCell ⟨b, i * 3 + 2, none⟩ (.int .i64 (p.load - 1))).cell? ⟨g, 0, none⟩ = some (.slice (some ⟨b, 0, none⟩) l.length cap) := P1.out.1.head.here rfl
      have e1 := HE1.out; have e2 := HE2.out
      have q4 : 0 ≤ p.load - 1 := by omega
      clear f2 c2 q2 q3 l0 l1 hc
      obtain ⟨W, hW⟩ : ∃ W, Hid (w1.setCell ⟨b, i * 3 + 2, none⟩ (.int .i64 (p.load - 1)) = W) := ⟨_, Lib.hid rfl⟩
      rw [hW.out] at P1 hcP e1 e2 ⊢
      clear hW HE1 HE2
      generalize p.load - 1 = pl at P1 HLst e2 q4 ⊢
      by_cases d : p.state = 4
      · by_cases d2 : pl = 0
        · have HR0 := Lib.hid (show Tide.podDoneLst l id = (l.set i ⟨p.id, p.state, pl⟩).eraseIdx i by rw [HLst.out, if_pos ⟨d, d2⟩, List.eraseIdx_set_eq])
          rw [d] at e1
          rw [d2] at e2
          clear d d2 q4
          go_wp2_with fail
          refine (fleGone S g _ _ last most i _ P1.out.1 (by rw [List.length_set]; exact hil)).mono ?_
          rintro e w2 ⟨⟨x, rfl⟩, ⟨v2, h2⟩, ch2⟩
          have HR := Lib.hid (show FleOut 88 S w g (.int .i64 (Tide.podDoneErr l id)) (Tide.podDoneLst l id) last most (.returned (.int .i64 0)) w2 from fle_out HB.out h2 (P1.out.2.trans ch2) (by rw [HErr.out]) HR0.out.symm)
          clear h2 ch2 hcP e1 e2
          go_wp2_with fail
          go_ret
          exact HR.out
        · have d3 : (pl == 0) = false := by simp only [beq_eq_false_iff_ne]; exact d2
          have HR := Lib.hid (show FleOut 88 S w g (.int .i64 (Tide.podDoneErr l id)) (Tide.podDoneLst l id) last most (.returned (.int .i64 0)) W from fle_out HB.out P1.out.1 P1.out.2 (by rw [HErr.out]) (by rw [HLst.out, if_neg (fun c => d2 c.2)]))
          rw [d] at e1
          clear d d2
          go_wp2_with fail
          go_ret
          exact HR.out
      · have d3 : (p.state == 4) = false := by simp only [beq_eq_false_iff_ne]; exact d
        have HR := Lib.hid (show FleOut 88 S w g (.int .i64 (Tide.podDoneErr l id)) (Tide.podDoneLst l id) last most (.returned (.int .i64 0)) W from fle_out HB.out P1.out.1 P1.out.2 (by rw [HErr.out]) (by rw [HLst.out, if_neg (fun c => d c.1)]))
        clear d
        go_wp2_with fail
        go_ret
        exact HR.out
def mostOf (n : Int) : Int := min (max n 1) 100
def FleNewPost (T : TypeId) (w : World) (most : Int) (e : Ending) (w' : World) : Prop := ∃ g, e = .returned (.pointer (some ⟨g, 0, none⟩)) ∧ FAt T (Tide.Plus (fun _ => False) w w') w' g (.slice none 0 0) [] 0 most ∧ Below w.heap.size w w'
theorem fnew_made (T : TypeId) (w : World) (most : Int) : FleNewPost T w most (.returned (.pointer (some ⟨w.heap.size, 0, none⟩))) (w.alloc (.cells #[.slice none 0 0, .int .i64 0, .int .i64 most] T)) :=
  ⟨_, rfl, ⟨Tide.At.made w _ _, Tide.OwnRow.nil _ _ _ _, .inr ⟨Nat.le_refl _, by simp⟩, by simp, fun b hb => by rcases hb with hb | hb; exact hb.elim; exact hb.2⟩, (Below.refl _ _).alloc (Nat.le_refl _) _⟩
set_option maxRecDepth 100000 in
set_option maxHeartbeats 1600000 in
theorem fleNew (n : Int) (w : World) : Calls Try.prog 29 #[.int .i64 n] w (FleNewPost 88 w (mostOf n)) := by
  have HF := Lib.hid (fnew_made 88 w (mostOf n))
  by_cases h1 : n < 1
  · have HE := Lib.hid (show mostOf n = 1 by unfold mostOf; omega)
    rw [HE.out] at HF
    rw [HE.out]
    have h2 : n ≤ 1 := by omega
    go_enter Try.func29, Try.ntmps29
    go_wp2_with fail
    go_ret
    exact HF.out
  · by_cases h2 : 100 < n
    · have HE := Lib.hid (show mostOf n = 100 by unfold mostOf; omega)
      rw [HE.out] at HF
      rw [HE.out]
      have h3 : 1 < n := by omega
      clear h1
      go_enter Try.func29, Try.ntmps29
      go_wp2_with fail
      go_ret
      exact HF.out
    · have HE := Lib.hid (show mostOf n = n by unfold mostOf; omega)
      rw [HE.out] at HF
      rw [HE.out]
      have h3 : 1 ≤ n := by omega
      have h4 : n ≤ 100 := by omega
      clear h1 h2
      go_enter Try.func29, Try.ntmps29
      go_wp2_with fail
      go_ret
      exact HF.out
end Go.Proofs.Ytgcdomoecikooaa
