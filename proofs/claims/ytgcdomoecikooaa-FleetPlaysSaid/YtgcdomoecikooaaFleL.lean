/- The contracts of the reference's Crew: find, Turn, Crash, Done, Give. -/
import Derived.Test.YtgcdomoecikooaaFleK
namespace Go.Proofs.Ytgcdomoecikooaa
open Go.RowKit
set_option linter.unusedVariables false
/- slices.IndexFunc at []api.Pod, the function (*tideref.Crew).find$1 -/
set_option maxRecDepth 100000 in
set_option maxHeartbeats 4000000 in
theorem creF_index (B : Nat) (p : Tide.Pod → Bool) (l : List Tide.Pod) (v : Value) (w : World) (hv : Tide.ListIn w 3 Tide.Pod.enc v l) (hlen : l.length ≤ 100000000)
    (hp : ∀ (m : Tide.Pod) (W : World), Below w.heap.size w W → Calls Try.prog 74 #[.agg #[.int .i64 m.id, .int .i64 m.state, .int .i64 m.load], .pointer (some ⟨B, 0, none⟩)] W fun e W' => e = .returned (.bool (p m)) ∧ Below W.heap.size W W') :
    Calls Try.prog 39 #[v, .func (.func 74) #[] #[.pointer (some ⟨B, 0, none⟩)]] w fun e w' => e = .returned (.int .i64 (Tide.idxOf (Tide.firstAt p l))) ∧ Below w.heap.size w w' := by
  obtain ⟨A, cap, rfl, hA⟩ := hv
  have HA := Lib.hid hA; have HP := Lib.hid hp
  clear hA hp
  go_enter Try.func39, Try.ntmps39
  go_wp2_with fail
  go_loopw [8] (fun i wr => ∃ k : Nat, k ≤ l.length ∧ i = .int .i64 k ∧ Hid (∀ (t : Nat) (b : Tide.Pod), t < k → l[t]? = some b → p b = false) ∧ Below w.heap.size w wr) (fun i _ => l.length - (intOf i).toNat)
  case atStart => exact ⟨0, by omega, rfl, fun t b ht => by omega, Below.refl _ _⟩
  case round =>
    obtain ⟨k, hk, rfl, hno, hb⟩ := hrel
    by_cases hlt : k < l.length
    · obtain ⟨m, hm⟩ := Tide.get_some l hlt
      obtain ⟨b, off, rfl, hbl, hc⟩ := HA.out (by omega)
      have cl : ∀ (j : Nat) (u : Value), m.enc[j]? = some u → wr.cell? ⟨b, off + k * 3 + j, none⟩ = some u := fun j u hu => (hb.cell (p := ⟨b, off + k * 3 + j, none⟩) hbl).trans (hc k m j u hm hu)
      have c0 : wr.cell? ⟨b, off + k * 3, none⟩ = _ := cl 0 _ rfl
      have c1 := cl 1 _ rfl; have c2 := cl 2 _ rfl
      have i0 : (0 : Int) ≤ (k : Int) := by omega
      have i1 : (k : Int) < (l.length : Int) := by omega
      have HM := Lib.hid hm
      clear hc cl hm
      go_wp2_with fail
      refine (HP.out m _ hb).mono ?_
      rintro e w1 ⟨rfl, hb1⟩
      have HB := Lib.hid (hb.trans (hb1.mono hb.size))
      cases hpm : p m
      · have HN := Lib.hid (show ∀ (t : Nat) (b : Tide.Pod), t < k + 1 → l[t]? = some b → p b = false from fun t b ht hb => by
          rcases Nat.lt_succ_iff_lt_or_eq.mp ht with h | h
          · exact hno.out t b h hb
          · subst h; rw [HM.out] at hb; cases hb; exact hpm)
        clear hb hb1 hno hpm
        go_wp2_with fail
        go_roundw
        case rel => exact ⟨k + 1, by omega, by go_num, HN, HB.out⟩
        case measure => simp [intOf]; omega
      · have HN := Lib.hid (Tide.firstAt_some hno.out HM.out hpm)
        clear hb hb1 hno hpm
        go_wp2_with fail
        go_ret
        exact ⟨by rw [HN.out]; rfl, HB.out⟩
    · have hke : k = l.length := by omega
      have HN := Lib.hid (Tide.firstAt_none (p := p) (l := l) (fun t b hb => hno.out t b (by rw [hke]; exact Tide.get_lt hb) hb))
      have HB := Lib.hid hb
      clear hb hno hke
      go_wp2_with fail
      go_ret
      exact ⟨by rw [HN.out]; rfl, HB.out⟩
set_option maxHeartbeats 400000 in
theorem creIs (id : Int) (B : Nat) (m : Tide.Pod) (W : World) (h : W.cell? ⟨B, 0, none⟩ = some (.int .i64 id)) : Calls Try.prog 74 #[.agg #[.int .i64 m.id, .int .i64 m.state, .int .i64 m.load], .pointer (some ⟨B, 0, none⟩)] W fun e W' => e = .returned (.bool (Tide.podIs id m)) ∧ Below W.heap.size W W' := by
  have hB := World.block_lt_of_cell? W _ h
  simp only at hB
  go_enter Try.func74, Try.ntmps74
  go_wp2_with fail
  go_ret
  exact ⟨rfl, (Below.refl _ _).alloc (Nat.le_refl _) _⟩
set_option maxRecDepth 100000 in
set_option maxHeartbeats 1600000 in
theorem creFind (S : Nat → Prop) (g : Nat) (v : Value) (l : List Tide.Pod) (last most id : Int) (w : World) (h : FAt 71 S w g v l last most) :
    Calls Try.prog 69 #[.pointer (some ⟨g, 0, none⟩), .int .i64 id] w (FleRead w (.int .i64 (Tide.idxOf (Tide.findP l id)))) := by
  have HX := Lib.hid (Tide.At.made w 3 #[.int .i64 id])
  have HB := Lib.hid ((Below.refl w.heap.size w).alloc (Nat.le_refl _) (.cells #[.int .i64 id] 3))
  have HH := Lib.hid (h.alloc (.cells #[.int .i64 id] 3))
  have hc : w.cell? ⟨g, 0, none⟩ = some v := h.head.here rfl
  have hc2 : (w.alloc (.cells #[.int .i64 id] 3)).cell? ⟨g, 0, none⟩ = some v := HH.out.head.here rfl
  have hgw : g < w.heap.size := h.head.inside
  clear h
  go_enter Try.func69, Try.ntmps69
  go_wp2_with fail
  refine (creF_index w.heap.size (Tide.podIs id) l v _ (HH.out.row.list Tide.Pod.enc_length) (by have := HH.out.small; omega) (fun m W hW => creIs id _ m W ((hW.cell (p := ⟨w.heap.size, 0, none⟩) HX.out.inside).trans (HX.out.here (i := 0) rfl)))).mono ?_
  rintro e w2 ⟨rfl, hb2⟩
  have HB2 := Lib.hid (HB.out.trans (hb2.mono HB.out.size))
  clear hb2 hc hc2
  go_wp2_with fail
  go_ret
  exact ⟨rfl, HB2.out⟩
def CreOut (T : TypeId) (S : Nat → Prop) (w : World) (g : Nat) (x : Value) (l : List Tide.Pod) (last most : Int) (e : Ending) (w' : World) : Prop :=
  e = .returned x ∧ (∃ v, FAt T (Tide.Plus S w w') w' g v l last most) ∧ Tide.Chg S w w'
/-- w, then what reads (w1), then what writes (w') -/
theorem cre_out {T : TypeId} {S : Nat → Prop} {w w' w1 : World} {g : Nat} {x x' v : Value} {l l' : List Tide.Pod} {last most : Int} (hb : Below w.heap.size w w1) (h : FAt T (Tide.Plus S w1 w') w' g v l' last most) (hc : Tide.Chg S w1 w') (e : x' = x) (el : l' = l) : CreOut T S w g x l last most (.returned x') w' := by
  have z1 := hb.size
  have z2 := hc.size
  refine ⟨by rw [e], ⟨v, el ▸ (h.mono (fun c hlt hb => ?_) (fun c hb => ?_))⟩, (Tide.Chg.of_below hb (Nat.le_refl _)).trans hc⟩
  · rcases hb with hb | hb
    · exact .inl hb
    · exact .inr ⟨by omega, hlt⟩
  · rcases hb with hb | hb
    · exact h.lim c (.inl hb)
    · exact hb.2
theorem cre_same {T : TypeId} {S : Nat → Prop} {w w' w1 : World} {g : Nat} {x x' v : Value} {l l' : List Tide.Pod} {last most : Int} (hb : Below w.heap.size w w1) (h : FAt T S w' g v l' last most) (hc : Tide.Chg S w1 w') (e : x' = x) (el : l' = l) : CreOut T S w g x l last most (.returned x') w' := cre_out hb h.up hc e el
set_option maxRecDepth 100000 in
set_option maxHeartbeats 3200000 in
theorem creTurn (S : Nat → Prop) (g : Nat) (v : Value) (l : List Tide.Pod) (last most id src : Int) (w : World) (h : FAt 71 S w g v l last most) (hs0 : 0 ≤ src) (hs1 : src ≤ 10) :
    Calls Try.prog 44 #[.pointer (some ⟨g, 0, none⟩), .int .i64 id, .int .i64 src] w (CreOut 71 S w g (.int .i64 (Tide.turnErr l id src)) (Tide.turnLst l id src (src + 1)) last most) := by
  have hs := h.small
  have HH := Lib.hid h
  clear h
  go_enter Try.func44, Try.ntmps44
  go_wp2_with fail
  refine (creFind S g v l last most id _ HH.out).mono ?_
  rintro e w1 ⟨rfl, hb1⟩
  have HB := Lib.hid hb1
  clear hb1
  cases hf : Tide.findP l id with
  | none =>
    rw [idx_none]
    have HR := Lib.hid (show CreOut 71 S w g (.int .i64 (Tide.turnErr l id src)) (Tide.turnLst l id src (src + 1)) last most (.returned (.int .i64 4)) w1 from cre_same HB.out (HH.out.below HB.out) (Tide.Chg.refl _ _) (by unfold Tide.turnErr; rw [hf]) (by unfold Tide.turnLst; rw [hf]))
    clear hf
    go_wp2_with fail
    go_ret
    exact HR.out
  | some i =>
    rw [idx_some]
    obtain ⟨p, hp, _⟩ := Tide.findP_some hf
    obtain ⟨b, cap, rfl, hS, _, _, hbl, c0, c1, c2, fz⟩ := (HH.out.below HB.out).pod hp
    have hc : w1.cell? ⟨g, 0, none⟩ = some (.slice (some ⟨b, 0, none⟩) l.length cap) := (HH.out.below HB.out).head.here rfl
    have hil := Tide.get_lt hp
    have i0 : (0 : Int) ≤ (i : Int) := by omega
    have i1 : (i : Int) < (l.length : Int) := by omega
    have f1 := fz (i * 3 + 1)
    by_cases q : p.state = src
    · have p1 := (HH.out.below HB.out).put (by decide) (k := i) (j := 1) (r' := { p with state := src + 1 }) (u := .int .i64 (src + 1)) hp (by decide) rfl
      have HR := Lib.hid (show CreOut 71 S w g (.int .i64 (Tide.turnErr l id src)) (Tide.turnLst l id src (src + 1)) last most (.returned (.int .i64 0)) _ from cre_same HB.out p1.1 p1.2 (by unfold Tide.turnErr; rw [hf]; simp only [hp]; rw [if_pos q]) (by unfold Tide.turnLst; rw [hf]; simp only [hp]; rw [if_pos q]))
      have q2 : (p.state != src) = false := by simp [q]
      clear hf hp p1 c0 c2 fz q
      go_wp2_with fail
      go_ret
      exact HR.out
    · have HR := Lib.hid (show CreOut 71 S w g (.int .i64 (Tide.turnErr l id src)) (Tide.turnLst l id src (src + 1)) last most (.returned (.int .i64 7)) w1 from cre_same HB.out (HH.out.below HB.out) (Tide.Chg.refl _ _) (by unfold Tide.turnErr; rw [hf]; simp only [hp]; rw [if_neg q]) (by unfold Tide.turnLst; rw [hf]; simp only [hp]; rw [if_neg q]))
      have q2 : (p.state != src) = true := by simp [q]
      clear hf hp c0 c2 fz q f1
      go_wp2_with fail
      go_ret
      exact HR.out
set_option maxRecDepth 100000 in
set_option maxHeartbeats 3200000 in
theorem creCrash (S : Nat → Prop) (g : Nat) (v : Value) (l : List Tide.Pod) (last most id : Int) (w : World) (h : FAt 71 S w g v l last most) (hu : l.Pairwise (fun a b => a.id < b.id)) :
    Calls Try.prog 45 #[.pointer (some ⟨g, 0, none⟩), .int .i64 id] w (CreOut 71 S w g (.tuple #[.int .i64 (Tide.crashNum l id), .int .i64 (Tide.crashErr l id)]) (Tide.crashLst l id) last most) := by
  have hs := h.small
  have HH := Lib.hid h; have HU := Lib.hid hu
  clear h hu
  go_enter Try.func45, Try.ntmps45
  go_wp2_with fail
  refine (creFind S g v l last most id _ HH.out).mono ?_
  rintro e w1 ⟨rfl, hb1⟩
  have HB := Lib.hid hb1
  clear hb1
  cases hf : Tide.findP l id with
  | none =>
    rw [idx_none]
    have HR := Lib.hid (show CreOut 71 S w g (.tuple #[.int .i64 (Tide.crashNum l id), .int .i64 (Tide.crashErr l id)]) (Tide.crashLst l id) last most (.returned (.tuple #[.int .i64 0, .int .i64 4])) w1 from cre_same HB.out (HH.out.below HB.out) (Tide.Chg.refl _ _) (by unfold Tide.crashErr Tide.crashNum; rw [hf]) (by unfold Tide.crashLst; rw [hf]))
    clear hf
    go_wp2_with fail
    go_ret2
    exact HR.out
  | some i =>
    rw [idx_some]
    obtain ⟨p, hp, rfl⟩ := Tide.findP_some hf
    obtain ⟨b, cap, rfl, hS, _, _, hbl, c0, c1, c2, fz⟩ := (HH.out.below HB.out).pod hp
    have hc : w1.cell? ⟨g, 0, none⟩ = some (.slice (some ⟨b, 0, none⟩) l.length cap) := (HH.out.below HB.out).head.here rfl
    have hil := Tide.get_lt hp
    have i0 : (0 : Int) ≤ (i : Int) := by omega
    have i1 : (i : Int) < (l.length : Int) := by omega
    have HE := Lib.hid (show Tide.crashErr l p.id = 0 ∧ Tide.crashNum l p.id = p.load ∧ Tide.crashLst l p.id = l.filter (Tide.otherId p.id) by
      unfold Tide.crashErr Tide.crashNum Tide.crashLst; rw [hf]; exact ⟨rfl, by simp only; unfold Tide.loadAt; rw [hp]; rfl, (Tide.filter_erase HU.out hp).symm⟩)
    clear hf hp c0 c1 fz
    go_wp2_with fail
    refine (creOut S g _ l last most p.id _ (HH.out.below HB.out)).mono ?_
    rintro e w2 ⟨⟨x, rfl⟩, ⟨v2, h2⟩, ch2⟩
    have HR := Lib.hid (show CreOut 71 S w g (.tuple #[.int .i64 (Tide.crashNum l p.id), .int .i64 (Tide.crashErr l p.id)]) (Tide.crashLst l p.id) last most (.returned (.tuple #[.int .i64 p.load, .int .i64 0])) w2 from cre_out HB.out h2 ch2 (by rw [HE.out.1, HE.out.2.1]) HE.out.2.2.symm)
    clear h2 ch2 hc c2
    go_wp2_with fail
    go_ret2
    exact HR.out
set_option maxRecDepth 100000 in
set_option maxHeartbeats 3200000 in
theorem creDone (S : Nat → Prop) (g : Nat) (v : Value) (l : List Tide.Pod) (last most id : Int) (w : World) (h : FAt 71 S w g v l last most) (hld : ∀ p ∈ l, 0 ≤ p.load ∧ p.load ≤ 1000) (hu : l.Pairwise (fun a b => a.id < b.id)) :
    Calls Try.prog 47 #[.pointer (some ⟨g, 0, none⟩), .int .i64 id] w (CreOut 71 S w g (.int .i64 (Tide.podDoneErr l id)) (Tide.podDoneLst l id) last most) := by
  have hs := h.small
  have HH := Lib.hid h; have HLd := Lib.hid hld; have HU := Lib.hid hu
  clear h hld hu
  go_enter Try.func47, Try.ntmps47
  go_wp2_with fail
  refine (creFind S g v l last most id _ HH.out).mono ?_
  rintro e w1 ⟨rfl, hb1⟩
  have HB := Lib.hid hb1
  clear hb1
  cases hf : Tide.findP l id with
  | none =>
    rw [idx_none]
    have HR := Lib.hid (show CreOut 71 S w g (.int .i64 (Tide.podDoneErr l id)) (Tide.podDoneLst l id) last most (.returned (.int .i64 4)) w1 from cre_same HB.out (HH.out.below HB.out) (Tide.Chg.refl _ _) (by unfold Tide.podDoneErr; rw [hf]) (by unfold Tide.podDoneLst; rw [hf]))
    clear hf
    go_wp2_with fail
    go_ret
    exact HR.out
  | some i =>
    rw [idx_some]
    obtain ⟨p, hp, rfl⟩ := Tide.findP_some hf
    obtain ⟨b, cap, rfl, hS, _, _, hbl, c0, c1, c2, fz⟩ := (HH.out.below HB.out).pod hp
    have hc : w1.cell? ⟨g, 0, none⟩ = some (.slice (some ⟨b, 0, none⟩) l.length cap) := (HH.out.below HB.out).head.here rfl
    have hil := Tide.get_lt hp
    have i0 : (0 : Int) ≤ (i : Int) := by omega
    have i1 : (i : Int) < (l.length : Int) := by omega
    have hla : Tide.loadAt l i = p.load := by unfold Tide.loadAt; rw [hp]; rfl
    have l0 := (HLd.out p (List.mem_of_getElem? hp)).1
    have l1 := (HLd.out p (List.mem_of_getElem? hp)).2
    have f2 := fz (i * 3 + 2)
    have HP := Lib.hid hp
    by_cases q : p.load = 0
    · have HR := Lib.hid (show CreOut 71 S w g (.int .i64 (Tide.podDoneErr l p.id)) (Tide.podDoneLst l p.id) last most (.returned (.int .i64 7)) w1 from cre_same HB.out (HH.out.below HB.out) (Tide.Chg.refl _ _) (by unfold Tide.podDoneErr; rw [hf]; simp only; rw [hla, if_pos q]) (by unfold Tide.podDoneLst; rw [hf]; simp only [hp]; rw [if_pos q]))
      rw [q] at c2
      clear hf hp hla c0 c1 fz f2 q l0 l1
      go_wp2_with fail
      go_ret
      exact HR.out
    · have q2 : (p.load == 0) = false := by simp only [beq_eq_false_iff_ne]; exact q
      have q3 : 1 ≤ p.load := by omega
      have p1 := (HH.out.below HB.out).put (by decide) (k := i) (j := 2) (r' := { p with load := p.load - 1 }) (u := .int .i64 (p.load - 1)) hp (by decide) rfl
      have P1 := Lib.hid p1
      have HErr := Lib.hid (show Tide.podDoneErr l p.id = 0 by unfold Tide.podDoneErr; rw [hf]; simp only; rw [hla, if_neg q])
      have HLst := Lib.hid (show Tide.podDoneLst l p.id = if p.state = 4 ∧ p.load - 1 = 0 then l.eraseIdx i else l.set i { p with load := p.load - 1 } by unfold Tide.podDoneLst; rw [hf]; simp only [hp]; rw [if_neg q])
      have HFi := Lib.hid (show (l.set i { p with load := p.load - 1 }).filter (Tide.otherId p.id) = l.eraseIdx i by
        have := Tide.filter_erase (l := l.set i { p with load := p.load - 1 }) (p := { p with load := p.load - 1 }) (Tide.up_set HU.out hp rfl) (List.getElem?_set_self hil)
        rw [List.eraseIdx_set_eq] at this
        exact this)
      obtain ⟨b', cap', e, _, _, _, _, e0, e1, e2, _⟩ := p1.1.pod (List.getElem?_set_self hil)
      rw [List.length_set] at e
      cases e
      have HE1 := Lib.hid e1; have HE2 := Lib.hid e2
      clear p1 hf hp hla c0 c1 fz q e0 e1 e2
      go_upto_region 7 with fail
      have hcP : (w1.setCell ⟨b, i * 3 + 2, none⟩ (.int .i64 (p.load - 1))).cell? ⟨g, 0, none⟩ = some (.slice (some ⟨b, 0, none⟩) l.length cap) := P1.out.1.head.here rfl
      have e1 := HE1.out; have e2 := HE2.out
      have q4 : 0 ≤ p.load - 1 := by omega
      clear f2 c2 q2 q3 l0 l1 hc
      obtain ⟨W, hW⟩ : ∃ W, Hid (w1.setCell ⟨b, i * 3 + 2, none⟩ (.int .i64 (p.load - 1)) = W) := ⟨_, Lib.hid rfl⟩
      rw [hW.out] at P1 hcP e1 e2 ⊢
      clear hW HE1 HE2
      generalize p.load - 1 = pl at P1 HLst e2 q4 HFi ⊢
      by_cases d2 : pl = 0
      · by_cases d : p.state = 4
        · have HR0 := Lib.hid (show Tide.podDoneLst l p.id = (l.set i ⟨p.id, p.state, pl⟩).filter (Tide.otherId p.id) by rw [HLst.out, if_pos ⟨d, d2⟩, HFi.out])
          rw [d] at e1
          rw [d2] at e2
          clear d d2 q4
          go_wp2_with fail
          refine (creOut S g _ _ last most p.id _ P1.out.1).mono ?_
          rintro e w2 ⟨⟨x, rfl⟩, ⟨v2, h2⟩, ch2⟩
          have HR := Lib.hid (show CreOut 71 S w g (.int .i64 (Tide.podDoneErr l p.id)) (Tide.podDoneLst l p.id) last most (.returned (.int .i64 0)) w2 from cre_out HB.out (h2.mono (fun c hlt hb => by
            have z := P1.out.2.size
            rcases hb with hb | hb
            · exact .inl hb
            · exact .inr ⟨by omega, hb.2⟩) (fun c hb => by
            have z := ch2.size
            rcases hb with hb | hb
            · exact h2.lim c (.inl hb)
            · exact hb.2)) (P1.out.2.trans ch2) (by rw [HErr.out]) HR0.out.symm)
          clear h2 ch2 hcP e1 e2
          go_wp2_with fail
          go_ret
          exact HR.out
        · have d3 : (p.state == 4) = false := by simp only [beq_eq_false_iff_ne]; exact d
          have HR := Lib.hid (show CreOut 71 S w g (.int .i64 (Tide.podDoneErr l p.id)) (Tide.podDoneLst l p.id) last most (.returned (.int .i64 0)) W from cre_same HB.out P1.out.1 P1.out.2 (by rw [HErr.out]) (by rw [HLst.out, if_neg (fun c => d c.1)]))
          rw [d2] at e2
          clear d d2
          go_wp2_with fail
          go_ret
          exact HR.out
      · have d3 : (pl == 0) = false := by simp only [beq_eq_false_iff_ne]; exact d2
        have HR := Lib.hid (show CreOut 71 S w g (.int .i64 (Tide.podDoneErr l p.id)) (Tide.podDoneLst l p.id) last most (.returned (.int .i64 0)) W from cre_same HB.out P1.out.1 P1.out.2 (by rw [HErr.out]) (by rw [HLst.out, if_neg (fun c => d2 c.2)]))
        clear d2
        go_wp2_with fail
        go_ret
        exact HR.out
end Go.Proofs.Ytgcdomoecikooaa
