/- A world: a reading of a trigger; a look. -/
import Derived.Test.YtlfaogkdghnmcaaGreatWldC
set_option linter.unusedVariables false
set_option linter.unusedSimpArgs false
namespace Go.Proofs.YtlfaogkdghnmcaaGreat
open Go.RowKit
def RdPost (R : Nat → Prop) (w : World) (p : Wp) (m : Wo) (t : Trg) (x : Bool) (e : Ending) (w' : World) : Prop :=
  ∃ (r : RdV) (Q : Nat → Prop), e = .returned (.agg #[.bool r.failed, .slice r.A r.xs.length r.cap]) ∧ r.rd = readOf t x m.t m.q m.now ∧ NumsOf Q w' r.A r.xs ∧ r.xs.length ≤ 20 ∧ (∀ b, Q b → w.heap.size ≤ b) ∧ WoN (fun b => R b ∨ Q b) w' p { m with q := qAfter [t] m.q m.now } ∧ Tide.Chg (fun b => ¬ R b) w w'
theorem NumsOf.mono {R R' : Nat → Prop} {w : World} {A : Option Addr} {xs : List Int} (h : NumsOf R w A xs) (hs : ∀ b, R b → R' b) : NumsOf R' w A xs := fun h0 => by
  obtain ⟨b, off, e, hR, hlt, hx⟩ := h h0
  exact ⟨b, off, e, hs b hR, hlt, hx⟩
theorem NumsOf.keep {R R' : Nat → Prop} {w : World} {A : Option Addr} {xs : List Int} (h : NumsOf R w A xs) (hs : ∀ b, R b → b < w.heap.size → R' b) : NumsOf R' w A xs := fun h0 => by
  obtain ⟨b, off, e, hR, hlt, hx⟩ := h h0
  exact ⟨b, off, e, hs b hR hlt, hlt, hx⟩
theorem read_end {R Q : Nat → Prop} {w w2 wf : World} {p : Wp} {m : Wo} {t : Trg} {x : Bool} {A : Option Addr} {cap : Nat} {xs : List Int} (hR : ∀ b, R b → b < w.heap.size) (h2 : WoN (fun b => R b ∨ Q b) w2 p { m with q := qAfter [t] m.q m.now }) (hQ : ∀ b, Q b → w.heap.size ≤ b) (hc : Tide.Chg (fun b => ¬ R b) w w2) (q0 : Q w.heap.size) (q1 : Q (w.heap.size + 1))
    (hn : NumsOf (fun b => Q b ∧ b ≠ w.heap.size ∧ b ≠ w.heap.size + 1) w2 A xs) (hl : xs.length ≤ 20) (hf : Tide.Chg (fun b => b = w.heap.size ∨ b = w.heap.size + 1) w2 wf) (hr : (⟨x, xs⟩ : Rd) = readOf t x m.t m.q m.now) :
    RdPost R w p m t x (.returned (.agg #[.bool x, .slice A xs.length cap])) wf := by
  refine ⟨⟨x, A, cap, xs⟩, Q, rfl, hr, (hn.chg hf (fun b hb h => ?_)).mono (fun b hb => hb.1), hl, hQ, (h2.grow hf (fun b hb => ?_)).mono (fun b hb => .inl hb), hc.trans (hf.mono fun b _ hb hRb => ?_)⟩
  · rcases h with h | h
    · exact hb.2.1 h
    · exact hb.2.2 h
  · rcases hb with rfl | rfl
    · exact .inr q0
    · exact .inr q1
  · have := hR b hRb; omega
theorem nums_of_row {S : Nat → Prop} {w : World} {A : Option Addr} {n cap : Nat} {xs : List Int} (h : Tide.OwnRow S w 3 1 (.slice A n cap) xs.length (xs.map (Value.int .i64))) : NumsOf S w A xs := fun h0 => by
  obtain ⟨A', cap', e, _, _, hv⟩ := h.slice
  cases e
  obtain ⟨g, e1, hS, hr⟩ := hv h0
  exact ⟨g, 0, e1, hS, hr.inside, fun i x hi => by rw [Nat.zero_add]; exact hr.cell (by rw [List.getElem?_map, hi]; rfl)⟩
theorem two_puts {g : Nat} (w : World) (u v : Value) : Tide.Chg (fun b => b = g ∨ b = g + 1) w ((w.setCell ⟨g, 0, none⟩ u).setCell ⟨g, 1, none⟩ v) := ((Tide.Chg.refl (fun b => b = g ∨ b = g + 1) w).put (p := ⟨g, 0, none⟩) (.inl (.inl rfl)) u).put (p := ⟨g, 1, none⟩) (.inl (.inl rfl)) v
theorem three_puts {g : Nat} (w : World) (a u v : Value) : Tide.Chg (fun b => b = g ∨ b = g + 1) w (((w.setCell ⟨g + 1, 1, none⟩ a).setCell ⟨g, 0, none⟩ u).setCell ⟨g, 1, none⟩ v) := (((Tide.Chg.refl (fun b => b = g ∨ b = g + 1) w).put (p := ⟨g + 1, 1, none⟩) (.inl (.inr rfl)) a).put (p := ⟨g, 0, none⟩) (.inl (.inl rfl)) u).put (p := ⟨g, 1, none⟩) (.inl (.inl rfl)) v
theorem chg_alloc_both {C : Nat → Prop} {w w' : World} (h : Tide.Chg C w w') (hz : w'.heap.size = w.heap.size) (o : Obj) : Tide.Chg C (w.alloc o) (w'.alloc o) := by
  refine ⟨h.os, h.tape, h.output, by simp [hz], fun k hk hn => ?_⟩
  simp only [World.size_alloc] at hk
  by_cases c : k < w.heap.size
  · rw [Below.heap_alloc w' o k (by omega), Below.heap_alloc w o k c]; exact h.block k c hn
  · have e : k = w.heap.size := by omega
    subst e
    have e1 : (w.alloc o).heap[w.heap.size]? = some o := heap_alloc_new w o
    have e2 : (w'.alloc o).heap[w'.heap.size]? = some o := heap_alloc_new w' o
    rw [e1, ← hz, e2]
theorem lags_length (l : List (Int × Int)) : (lagsOf l).length = l.length := by unfold lagsOf; simp
theorem two_made (w : World) (T : TypeId) (x : Value) (y : Array Value) : Tide.Chg (fun _ => False) w ((w.alloc (.cells y T)).alloc (.cells #[x, .slice none 0 0] T)) := ((Tide.Chg.refl _ w).alloc _).alloc _
set_option maxRecDepth 100000 in
set_option maxHeartbeats 3200000 in
theorem woReading (R : Nat → Prop) (p : Wp) (m : Wo) (i : Nat) (t : Trg) (x : Bool) (w : World) (h : WoN R w p m) (ht : m.l.p.trigs[i]? = some t) (hx : m.fails[i]? = some x) (hs : Small m.t) (hl : m.t.length ≤ 20) (hf : m.fails.length ≤ 1000) (hg : m.l.p.trigs.length ≤ 1000) :
    Calls Tryz.prog 138 #[.pointer (some ⟨p.g, 0, none⟩), .int .i64 (i : Int)] w (RdPost R w p m t x) := by
  obtain ⟨A, cap, e, hA⟩ := h.failv
  have hi := Tide.get_lt hx
  have hi2 := Tide.get_lt ht
  obtain ⟨b, rfl, hbl, _, _, hcl⟩ := hA (by omega)
  obtain ⟨c0, _⟩ := hcl i x hx
  obtain ⟨At, capt, et, hAt⟩ := h.trigs
  obtain ⟨bt, offt, rfl, hbt, hct⟩ := hAt (by omega)
  have k0 : w.cell? ⟨bt, offt + i * 17, none⟩ = some (.int .i64 t.kind) := hct i t 0 _ ht rfl
  have x6 : w.cell? ⟨p.g, 6, none⟩ = some (.slice (some ⟨b, 0, none⟩) m.fails.length cap) := e ▸ h.at.here (i := 6) rfl
  have x5 : w.cell? ⟨p.g, 5, none⟩ = some (.slice (some ⟨bt, offt, none⟩) m.l.p.trigs.length capt) := et ▸ h.at.here (i := 5) rfl
  have i0 : (0 : Int) ≤ (i : Int) := by omega
  have i1 : (i : Int) < (m.fails.length : Int) := by omega
  have i2 : (i : Int) < (m.l.p.trigs.length : Int) := by omega
  have i3 : (m.fails.length : Int) ≤ 1000 := by omega
  have i4 : (m.l.p.trigs.length : Int) ≤ 1000 := by omega
  have hpg : p.g < w.heap.size := h.at.inside
  have HR := Lib.hid (fun b (hb : R b) => h.lt hb)
  have HH := Lib.hid h; have HS := Lib.hid hs; have HL := Lib.hid hl
  have HZ := Lib.hid (h.grow (two_made w 170 (.bool x) #[.bool false, .slice none 0 0]) (fun _ h => h.elim))
  have HC := Lib.hid (two_made w 170 (.bool x) #[.bool false, .slice none 0 0])
  have HA0 := Lib.hid ((Tide.At.made w 170 #[.bool false, .slice none 0 0]).alloc (.cells #[.bool x, .slice none 0 0] 170))
  have hA1 := Tide.At.made (w.alloc (.cells #[.bool false, .slice none 0 0] 170)) 170 #[.bool x, .slice none 0 0]
  rw [World.size_alloc] at hA1
  have HA1 := Lib.hid hA1
  clear hA1 h e et hA hcl hAt hct hs hl hf hg ht hx hi hi2
  by_cases hk1 : t.kind = 1
  · have HE := Lib.hid (show (⟨x, lagsOf m.t⟩ : Rd) = readOf t x m.t m.q m.now by unfold readOf; rw [if_pos hk1])
    have HQa := Lib.hid (show qAfter [t] m.q m.now = m.q by unfold qAfter isDepth; simp [hk1])
    rw [hk1] at k0
    clear hk1
    go_enter Tryz.func138, Tryz.ntmps138
    go_upto_region 4 with fail
    have x1 : ((w.alloc (.cells #[.bool false, .slice none 0 0] 170)).alloc (.cells #[.bool x, .slice none 0 0] 170)).cell? ⟨p.g, 1, none⟩ = some (.pointer (some ⟨p.gt, 0, none⟩)) := HZ.out.at.here (i := 1) rfl
    go_wp2_with fail
    refine (woLags _ HZ.out HS.out).mono ?_
    rintro e w2 ⟨v, rfl, ho, hb2⟩
    have hz2 := hb2.size
    simp only [World.size_alloc] at hz2
    have hO := Tide.OwnRow.of_owns (S := fun b => w.heap.size + 2 ≤ b) ho (fun g hg => by have := Tide.own_ge ho g hg; simpa using this)
    obtain ⟨A2, cap2, rfl, _, _, _⟩ := hO.slice
    have hC2 := HC.out.trans (Tide.Chg.of_below (S := fun _ => False) hb2 (Nat.le_refl _))
    have HG := Lib.hid (HH.out.grow hC2 (fun _ h => h.elim))
    have HY := Lib.hid (HA1.out.below hb2 HA1.out.inside)
    have HZ0 := Lib.hid (HA0.out.below hb2 HA0.out.inside)
    have HF := Lib.hid (fun (wf : World) (hf : Tide.Chg (fun b => b = w.heap.size ∨ b = w.heap.size + 1) w2 wf) => read_end (t := t) (cap := cap2) HR.out (Q := fun b => w.heap.size ≤ b ∧ b < w2.heap.size) (by rw [HQa.out]; exact HG.out) (fun b hb => hb.1) (hC2.mono fun _ _ h => h.elim) ⟨Nat.le_refl _, by omega⟩ ⟨by omega, by omega⟩ ((nums_of_row hO).keep fun b hb hlt => ⟨⟨by omega, hlt⟩, by omega, by omega⟩) (by rw [lags_length]; exact HL.out) hf HE.out)
    clear ho hb2 hO hC2 x1 k0 HG
    have y0 := HY.out.here (i := 0) rfl
    have y1 := HY.out.here (i := 1) rfl
    have y2 := HY.out.soft 0
    have y3 := HY.out.soft 1
    have z0 := HZ0.out.here (i := 0) rfl
    have z1 := HZ0.out.here (i := 1) rfl
    have z2 := HZ0.out.soft 0
    have z3 := HZ0.out.soft 1
    clear HY HZ0
    go_wp2_with fail
    refine bodyPost_ret (v := .agg #[.bool x, .slice A2 (lagsOf m.t).length cap2]) (by simp [results, Tryz.results138, go_sem, y0, y1, y2, y3, z0, z1, z2, z3]) rfl (HF.out _ ?_)
    exact three_puts _ _ _ _
  · have hk1b : (t.kind == 1) = false := by simpa using hk1
    by_cases hk2 : t.kind = 2
    · have HE := Lib.hid (show (⟨x, [Tide.depthNum m.q m.now]⟩ : Rd) = readOf t x m.t m.q m.now by unfold readOf; rw [if_neg hk1, if_pos hk2])
      have HQa := Lib.hid (show qAfter [t] m.q m.now = Tide.nowLst m.q m.now by unfold qAfter isDepth; simp [hk2])
      rw [hk2] at k0
      clear hk1 hk1b hk2
      have HN := Lib.hid ((HZ.out.mono (R' := fun b => R b ∨ (b = w.heap.size ∨ b = w.heap.size + 1)) (fun b hb => hb.imp id (fun e => by simp only [World.size_alloc]; omega))))
      go_enter Tryz.func138, Tryz.ntmps138
      go_upto_region 6 with fail
      have x2 : ((w.alloc (.cells #[.bool false, .slice none 0 0] 170)).alloc (.cells #[.bool x, .slice none 0 0] 170)).cell? ⟨p.g, 2, none⟩ = some (.pointer (some ⟨p.gq, 0, none⟩)) := HZ.out.at.here (i := 2) rfl
      have x8 : ((w.alloc (.cells #[.bool false, .slice none 0 0] 170)).alloc (.cells #[.bool x, .slice none 0 0] 170)).cell? ⟨p.g, 8, none⟩ = some (.int .i64 m.now) := HZ.out.at.here (i := 8) rfl
      go_region_held3 (fun w' => w'.cell? ⟨p.g, 2, none⟩ = some (.pointer (some ⟨p.gq, 0, none⟩)) ∧ w'.cell? ⟨p.g, 8, none⟩ = some (.int .i64 m.now)) (first | exact ⟨v2, v8⟩ | exact ⟨x2, x8⟩ | go_keep) ((go_at_call 161; refine (woDepth m.now _ HN.out.drew).mono ?_; rintro e w2 ⟨rfl, hc⟩; have v2 := hc.1.at.here (i := 2) rfl; have v8 := hc.1.at.here (i := 8) rfl))
      all_goals
        have HY := Lib.hid (At.kept HA1.out.drew hc.2 (.inr (.inr rfl)))
        have HZ0 := Lib.hid (At.kept HA0.out.drew hc.2 (.inr (.inl rfl)))
        have HZ1 := HZ0
        have hz2 : w.heap.size + 2 ≤ w2.heap.size := by have := hc.2.size; simpa using this
        have hG := hc.1.grow ((Tide.Chg.refl (fun _ => False) w2).alloc (.cells #[.int .i64 (Tide.depthNum m.q m.now)] 3)) (fun _ h => h.elim)
        have hCh : Tide.Chg (fun b => ¬ R b) w (w2.alloc (.cells #[.int .i64 (Tide.depthNum m.q m.now)] 3)) := ((HC.out.mono fun _ _ h => h.elim).drew.trans (hc.2.mono fun _ _ h hR => h (.inl hR))).alloc _
        have hNew := Tide.At.made w2 3 #[.int .i64 (Tide.depthNum m.q m.now)]
        have HF := Lib.hid (fun (wf : World) (hf : Tide.Chg (fun b => b = w.heap.size ∨ b = w.heap.size + 1) (w2.alloc (.cells #[.int .i64 (Tide.depthNum m.q m.now)] 3)) wf) => read_end (t := t) (A := some ⟨w2.heap.size, 0, none⟩) (cap := 1) (xs := [Tide.depthNum m.q m.now]) HR.out (Q := fun b => (b = w.heap.size ∨ b = w.heap.size + 1) ∨ (w2.heap.size ≤ b ∧ b < (w2.alloc (.cells #[.int .i64 (Tide.depthNum m.q m.now)] 3)).heap.size)) (by rw [HQa.out]; exact hG.mono fun b hb => by rcases hb with hb | hb | hb; exact .inl (.inl hb); exact .inl (.inr hb); exact .inr hb) (fun b hb => by rcases hb with (hb | hb) | hb <;> omega) hCh (.inl (.inl rfl)) (.inl (.inr rfl)) (fun _ => ⟨w2.heap.size, 0, rfl, ⟨.inr ⟨Nat.le_refl _, hNew.inside⟩, by omega, by omega⟩, hNew.inside, fun i y hi => by rcases i with _ | i; simp at hi; subst hi; exact hNew.here rfl; simp at hi⟩) (by simp) hf HE.out)
        have hzb : w.heap.size < w2.heap.size := by omega
        have hzc : w.heap.size + 1 < w2.heap.size := by omega
        clear hc hG hCh hNew v2 v8 k0 hz2
        have y0 := HY.out.here (i := 0) rfl
        have y1 := HY.out.here (i := 1) rfl
        have y2 := HY.out.soft 0
        have y3 := HY.out.soft 1
        have z0 := HZ0.out.here (i := 0) rfl
        have z1 := HZ0.out.here (i := 1) rfl
        have z2 := HZ0.out.soft 0
        have z3 := HZ0.out.soft 1
        clear HY HZ0
        have hA := (((HZ1.out.other (p := ⟨w.heap.size + 1, 1, none⟩) (show w.heap.size ≠ w.heap.size + 1 by omega) (.slice (some ⟨w2.heap.size, 0, none⟩) 1 1)).put 0 (.bool x)).put 1 (.slice (some ⟨w2.heap.size, 0, none⟩) 1 1)).alloc (.cells #[.int .i64 (Tide.depthNum m.q m.now)] 3)
        have HA := Lib.hid hA
        clear hA
        go_wp2_with fail
        refine bodyPost_ret (v := .agg #[.bool x, .slice (some ⟨w2.heap.size, 0, none⟩) 1 1]) (by exact results_cell_row Tryz.results138 _ _ w.heap.size 170 _ (0, 0) _ rfl HA.out Tryz.underlying170 rfl (by kernel_rfl)) rfl (HF.out _ ?_)
        exact chg_alloc_both (three_puts _ _ _ _) (by simp [World.setCell]) _
    · have hk2b : (t.kind == 2) = false := by simpa using hk2
      have HE := Lib.hid (show (⟨x, []⟩ : Rd) = readOf t x m.t m.q m.now by unfold readOf; rw [if_neg hk1, if_neg hk2])
      have HQa := Lib.hid (show qAfter [t] m.q m.now = m.q by unfold qAfter isDepth; simp [hk2])
      have HF := Lib.hid (read_end (t := t) (A := none) (cap := 0) (xs := []) HR.out (Q := fun b => w.heap.size ≤ b ∧ b < ((w.alloc (.cells #[.bool x, .slice none 0 0] 170)).alloc (.cells #[.bool x, .slice none 0 0] 170)).heap.size) (by rw [HQa.out]; exact HH.out.grow (two_made w 170 (.bool x) #[.bool x, .slice none 0 0]) (fun _ h => h.elim)) (fun b hb => hb.1) ((two_made w 170 (.bool x) #[.bool x, .slice none 0 0]).mono fun _ _ h => h.elim) ⟨Nat.le_refl _, by simp only [World.size_alloc]; omega⟩ ⟨by omega, by simp only [World.size_alloc]; omega⟩ (fun h0 => by simp at h0) (by simp) (Tide.Chg.refl _ _) HE.out)
      clear hk1 hk2
      go_enter Tryz.func138, Tryz.ntmps138
      go_wp2_with fail
      refine bodyPost_ret (v := .agg #[.bool x, .slice none 0 0]) (by simp [results, Tryz.results138, go_sem]) rfl HF.out
end Go.Proofs.YtlfaogkdghnmcaaGreat
