/- The contracts of package queue: Lease, Ack, All, Depth, New. -/
import Derived.Test.YtidonhndeohdlaaGreatDoorTt12
set_option linter.unusedVariables false
set_option linter.unusedSimpArgs false
namespace Go.Proofs.YtidonhndeohdlaaGreatDoor
open Go.RowKit
def LeasePost (T : TypeId) (S : Nat → Prop) (w : World) (g : Nat) (v : Value) (l : List Tide.Msg) (last now ticks : Int) (e : Ending) (w' : World) : Prop :=
  e = .returned (.tuple #[.int .i64 (Tide.leaseNum l now ticks), .int .i64 (Tide.leaseErr l now ticks)]) ∧ QAt T S w' g v (Tide.leaseLst l now ticks) last ∧ Tide.Chg S w w'
theorem lease_no {T : TypeId} {S : Nat → Prop} {w w' : World} {g : Nat} {v : Value} {l : List Tide.Msg} {last now ticks : Int} (h : QAt T S w' g v l last) (hc : Tide.Chg S w w') (hn : Tide.leaseOk now ticks = false) : LeasePost T S w g v l last now ticks (.returned (.tuple #[.int .i64 0, .int .i64 1])) w' := by
  refine ⟨by simp [Tide.leaseNum, Tide.leaseErr, hn], ?_, hc⟩
  simp only [Tide.leaseLst, hn, Bool.false_eq_true, if_false]; exact h
theorem modify_at {α : Type} {l : List α} {i : Nat} {a : α} {f : α → α} (h : l[i]? = some a) : l.modify i f = l.set i (f a) := by
  apply List.ext_getElem?
  intro j
  rw [List.getElem?_modify, List.getElem?_set]
  by_cases hj : i = j
  · subst hj; rw [h]; simp [Tide.get_lt h]
  · simp [hj]
set_option maxRecDepth 100000 in
set_option maxHeartbeats 3200000 in
theorem queLease (S : Nat → Prop) (g : Nat) (v : Value) (l : List Tide.Msg) (last now ticks : Int) (w : World) (h : QAt 134 S w g v l last) :
    Calls Tryz.prog 34 #[.pointer (some ⟨g, 0, none⟩), .int .i64 now, .int .i64 ticks] w (LeasePost 134 S w g v l last now ticks) := by
  by_cases h0 : ticks < 1
  · have HF := Lib.hid (lease_no (now := now) (ticks := ticks) h (Tide.Chg.refl _ _) (by unfold Tide.leaseOk; simp; omega))
    clear h
    go_enter Tryz.func34, Tryz.ntmps34
    go_wp2_with fail
    go_ret2
    exact HF.out
  by_cases h1 : 100000 < ticks
  · have HF := Lib.hid (lease_no (now := now) (ticks := ticks) h (Tide.Chg.refl _ _) (by unfold Tide.leaseOk; simp; omega))
    clear h
    go_enter Tryz.func34, Tryz.ntmps34
    go_wp2_with fail
    go_ret2
    exact HF.out
  have t0 : 1 ≤ ticks := by omega
  have t1 : ticks ≤ 100000 := by omega
  have HH := Lib.hid h
  clear h h0 h1
  go_enter Tryz.func34, Tryz.ntmps34
  go_wp2_with fail
  refine (queAt S g v l last now _ HH.out).mono ?_
  rintro e w1 ⟨rfl, h1, c1⟩
  cases hn : Tide.nowOk now
  · rw [show Tide.nowLst l now = l by unfold Tide.nowLst; rw [hn]; rfl] at h1
    have HF := Lib.hid (lease_no (now := now) (ticks := ticks) h1 c1 (by unfold Tide.leaseOk; rw [hn]; simp))
    clear h1 c1 hn
    go_wp2_with fail
    go_ret2
    exact HF.out
  · rw [show Tide.nowLst l now = Tide.backAll now l by unfold Tide.nowLst; rw [hn]; rfl] at h1
    have hnn : 0 ≤ now ∧ now ≤ 1099511627776 := by unfold Tide.nowOk at hn; simpa using hn
    obtain ⟨n0, n1⟩ := hnn
    have hok := Lib.hid (show Tide.leaseOk now ticks = true by unfold Tide.leaseOk; rw [hn]; simp [t0, t1])
    have hcell : w1.cell? ⟨g, 0, none⟩ = some v := h1.head.here rfl
    have H1 := Lib.hid h1; have C1 := Lib.hid c1
    clear h1 c1 hn
    go_wp2_with fail
    refine (queL_index Tide.free (Tide.backAll now l) v _ (H1.out.row.list Tide.Msg.enc_length) (by have := H1.out.small; omega) (fun m W _ => queFree m W)).mono ?_
    rintro e w2 ⟨rfl, hb2⟩
    have H2 := Lib.hid (H1.out.chg (Tide.Chg.of_below (S := fun _ => False) hb2 (Nat.le_refl _)) (fun _ _ h => h))
    have C2 := Lib.hid (C1.out.step_below hb2 C1.out.size)
    clear hb2 hcell
    cases hf : Tide.firstAt Tide.free (Tide.backAll now l)
    · have HF := Lib.hid (show LeasePost 134 S w g v l last now ticks (.returned (.tuple #[.int .i64 0, .int .i64 4])) w2 from ⟨by simp only [Tide.leaseNum, Tide.leaseErr, hok.out, if_true, hf], by simp only [Tide.leaseLst, hok.out, if_true, hf]; exact H2.out, C2.out⟩)
      simp only [Tide.idxOf]
      clear hf
      go_wp2_with fail
      go_ret2
      exact HF.out
    · rename_i i
      obtain ⟨m, hm, hfm, _⟩ := Tide.firstAt_spec hf
      obtain ⟨b, cap, rfl, hS, hgb, k1, k2, c0, c1, c2, f0, f1, f2⟩ := H2.out.msg (by decide) hm
      have hil : i < (Tide.backAll now l).length := Tide.get_lt hm
      have hcg : w2.cell? ⟨g, 0, none⟩ = _ := H2.out.head.here (i := 0) rfl
      have i0 : (0 : Int) ≤ (i : Int) := by omega
      have i1 : (i : Int) < ((Tide.backAll now l).length : Int) := by omega
      have HM := Lib.hid hm; have HFF := Lib.hid hf
      clear hm hf hfm k1 k2
      simp only [Tide.idxOf]
      go_wp2_with fail
      go_region
      all_goals
        have HQ := Lib.hid (H2.out.put2 (by decide) HM.out (now + ticks) true)
        have HF := Lib.hid (show LeasePost 134 S w g (.slice (some ⟨b, 0, none⟩) (Tide.backAll now l).length cap) l last now ticks (.returned (.tuple #[.int .i64 m.id, .int .i64 0])) _ from ⟨by simp [Tide.leaseNum, Tide.leaseErr, hok.out, HFF.out, HM.out], by simp only [Tide.leaseLst, hok.out, if_true, HFF.out]; rw [modify_at HM.out]; exact HQ.out.1.drew, C2.out.trans HQ.out.2.drew⟩)
        go_wp2_with fail
        go_ret2
        exact HF.out
theorem flat_one {l : List Tide.Msg} : ∀ u ∈ l.flatMap Tide.Msg.enc, u.oneCell' = true := by
  intro u hu
  obtain ⟨m, _, hm⟩ := List.mem_flatMap.1 hu
  simp only [Tide.Msg.enc, List.mem_cons, List.not_mem_nil, or_false] at hm
  rcases hm with rfl | rfl | rfl <;> rfl
theorem QAt.cut {T : TypeId} {S : Nat → Prop} {w w3 : World} {g b cap : Nat} {l : List Tide.Msg} {last : Int} (h : QAt T S w g (.slice (some ⟨b, 0, none⟩) l.length cap) l last) (hT : T ≠ 143) {i : Nat} (hi : i < l.length) (hgb : g ≠ b)
    (h3 : Tide.OwnRow S w3 143 3 (.slice (some ⟨b, 0, none⟩) (l.length - 1) cap) (l.length - 1) ((l.flatMap Tide.Msg.enc).take (i * 3) ++ (l.flatMap Tide.Msg.enc).drop ((i + 1) * 3))) (hc : Tide.Chg (fun x => x = b) w w3) :
    w3.cell? ⟨g, 0, none⟩ = some (.slice (some ⟨b, 0, none⟩) l.length cap) ∧ w3.frozen? ⟨g, 0, none⟩ = false ∧
    QAt T S (w3.setCell ⟨g, 0, none⟩ (.slice (some ⟨b, 0, none⟩) (l.length - 1) cap)) g (.slice (some ⟨b, 0, none⟩) (l.length - 1) cap) (l.eraseIdx i) last ∧ Tide.Chg S w (w3.setCell ⟨g, 0, none⟩ (.slice (some ⟨b, 0, none⟩) (l.length - 1) cap)) := by
  obtain ⟨b', cap', e, hS, _⟩ := h.row.form (by omega)
  cases e
  have hd := h.head.chg hc hgb
  have e1 : (l.eraseIdx i).length = l.length - 1 := by rw [List.length_eraseIdx]; simp [hi]
  refine ⟨hd.here rfl, hd.soft 0, ⟨hd.put 0 _, ?_, h.own, by rw [e1]; have := h.small; omega, fun c hc' => by rw [Tide.size_put]; exact Nat.lt_of_lt_of_le (h.lim c hc') hc.size⟩, (hc.mono (fun k _ e => by rw [e]; exact hS)).put (.inl h.own) _⟩
  rw [e1, Tide.flat_erase Tide.Msg.enc_length]
  exact h3.aside (p := ⟨g, 0, none⟩) (fun c hc' => by simp [Value.ownBlock] at hc'; show c ≠ g; omega) _
def AckPost (T : TypeId) (S : Nat → Prop) (w : World) (g : Nat) (l : List Tide.Msg) (last now id : Int) (e : Ending) (w' : World) : Prop :=
  e = .returned (.int .i64 (Tide.ackErr l now id)) ∧ (∃ v', QAt T S w' g v' (Tide.ackLst l now id) last) ∧ Tide.Chg S w w'
set_option maxRecDepth 100000 in
set_option maxHeartbeats 3200000 in
theorem queAck (S : Nat → Prop) (g : Nat) (v : Value) (l : List Tide.Msg) (last now id : Int) (w : World) (h : QAt 134 S w g v l last) :
    Calls Tryz.prog 35 #[.pointer (some ⟨g, 0, none⟩), .int .i64 now, .int .i64 id] w (AckPost 134 S w g l last now id) := by
  have HH := Lib.hid h
  have hgw : g < w.heap.size := h.head.inside
  clear h
  go_enter Tryz.func35, Tryz.ntmps35
  go_wp2_with fail
  refine (queAt S g v l last now _ (HH.out.alloc _)).mono ?_
  rintro e w1 ⟨rfl, h1, c1⟩
  have hbx : w1.cell? ⟨w.heap.size, 0, none⟩ = some (.int .i64 id) := by
    exact ((Tide.At.made w _ _).chg c1 (fun hS => absurd (HH.out.lim _ hS) (Nat.lt_irrefl _))).here rfl
  cases hn : Tide.nowOk now
  · rw [show Tide.nowLst l now = l by unfold Tide.nowLst; rw [hn]; rfl] at h1
    have HF := Lib.hid (show AckPost 134 S w g l last now id (.returned (.int .i64 1)) w1 from ⟨by simp [Tide.ackErr, hn], ⟨v, by simp only [Tide.ackLst, hn, Bool.false_eq_true, if_false]; exact h1⟩, ((Tide.Chg.refl S w).alloc _).trans c1⟩)
    clear h1 c1 hn
    go_wp2_with fail
    go_ret
    exact HF.out
  · rw [show Tide.nowLst l now = Tide.backAll now l by unfold Tide.nowLst; rw [hn]; rfl] at h1
    have hcell : w1.cell? ⟨g, 0, none⟩ = some v := h1.head.here rfl
    have H1 := Lib.hid h1; have C1 := Lib.hid (((Tide.Chg.refl S w).alloc _).trans c1); have HN := Lib.hid hn; have HBX := Lib.hid hbx
    clear h1 c1 hn
    go_wp2_with fail
    refine (queA_index w.heap.size (Tide.isId id) (Tide.backAll now l) v _ (H1.out.row.list Tide.Msg.enc_length) (by have := H1.out.small; omega) (fun m W hW => queIs id _ m W ((hW.cell (World.block_lt_of_cell? w1 _ HBX.out)).trans HBX.out))).mono ?_
    rintro e w2 ⟨rfl, hb2⟩
    have H2 := Lib.hid (H1.out.chg (Tide.Chg.of_below (S := fun _ => False) hb2 (Nat.le_refl _)) (fun _ _ h => h))
    have C2 := Lib.hid (C1.out.step_below hb2 C1.out.size)
    clear hb2 hcell hbx
    cases hf : Tide.firstAt (Tide.isId id) (Tide.backAll now l)
    · have HF := Lib.hid (show AckPost 134 S w g l last now id (.returned (.int .i64 4)) w2 from ⟨by simp only [Tide.ackErr, HN.out, if_true, hf], ⟨v, by simp only [Tide.ackLst, HN.out, if_true, hf]; exact H2.out⟩, C2.out⟩)
      simp only [Tide.idxOf]
      clear hf
      go_wp2_with fail
      go_ret
      exact HF.out
    · rename_i i
      obtain ⟨m, hm, hfm, _⟩ := Tide.firstAt_spec hf
      obtain ⟨b, cap, rfl, hS, hgb, k1, k2, c0, c1, c2, f0, f1, f2⟩ := H2.out.msg (by decide) hm
      have hil : i < (Tide.backAll now l).length := Tide.get_lt hm
      have hcg : w2.cell? ⟨g, 0, none⟩ = some (.slice (some ⟨b, 0, none⟩) (Tide.backAll now l).length cap) := H2.out.head.here (i := 0) rfl
      have i0 : (0 : Int) ≤ (i : Int) := by omega
      have i1 : (i : Int) < ((Tide.backAll now l).length : Int) := by omega
      have HM := Lib.hid hm; have HFF := Lib.hid hf
      clear hm hf hfm k1 k2
      simp only [Tide.idxOf]
      cases ht : m.taken
      · have HF := Lib.hid (show AckPost 134 S w g l last now id (.returned (.int .i64 7)) w2 from ⟨by simp [Tide.ackErr, HN.out, HFF.out, HM.out, ht], ⟨_, by simp only [Tide.ackLst, HN.out, if_true, HFF.out, HM.out, ht, Bool.false_eq_true, if_false]; exact H2.out⟩, C2.out⟩)
        rw [ht] at c2
        clear ht
        go_wp2_with fail
        go_ret
        exact HF.out
      · rw [ht] at c2
        have HT := Lib.hid ht
        have hs := H2.out.small
        clear ht
        go_wp2_with fail
        refine (que_delete S _ b cap _ i _ H2.out.row hil flat_one).mono ?_
        rintro e w3 ⟨rfl, h3, c3⟩
        obtain ⟨q0, q1, q2⟩ := H2.out.cut (by decide) hil hgb h3 c3
        have HF := Lib.hid (show AckPost 134 S w g l last now id (.returned (.int .i64 0)) _ from ⟨by simp [Tide.ackErr, HN.out, HFF.out, HM.out, HT.out], ⟨_, by simp only [Tide.ackLst, HN.out, if_true, HFF.out, HM.out, HT.out]; exact q2.1⟩, C2.out.trans q2.2⟩)
        clear h3 c3 q2
        go_wp2_with fail
        go_ret
        exact HF.out
set_option maxRecDepth 100000 in
set_option maxHeartbeats 3200000 in
theorem queDepth (S : Nat → Prop) (g : Nat) (v : Value) (l : List Tide.Msg) (last now : Int) (w : World) (h : QAt 134 S w g v l last) :
    Calls Tryz.prog 116 #[.pointer (some ⟨g, 0, none⟩), .int .i64 now] w fun e w' => e = .returned (.tuple #[.int .i64 (Tide.depthNum l now), .int .i64 (Tide.nowErr now)]) ∧ QAt 134 S w' g v (Tide.nowLst l now) last ∧ Tide.Chg S w w' := by
  have HH := Lib.hid h
  clear h
  go_enter Tryz.func116, Tryz.ntmps116
  go_wp2_with fail
  refine (queAt S g v l last now _ HH.out).mono ?_
  rintro e w1 ⟨rfl, h1, c1⟩
  cases hn : Tide.nowOk now
  · have H1 := Lib.hid h1; have C1 := Lib.hid c1; have HN := Lib.hid hn
    clear h1 c1 hn
    go_wp2_with fail
    go_ret2
    exact ⟨by simp [Tide.depthNum, Tide.nowErr, HN.out], H1.out, C1.out⟩
  · have hfin := Lib.hid (show Tide.depthNum l now = (((Tide.nowLst l now).countP Tide.free : Nat) : Int) ∧ Tide.nowErr now = 0 by simp [Tide.depthNum, Tide.nowErr, Tide.nowLst, hn])
    obtain ⟨L, hL⟩ : ∃ L, Tide.nowLst l now = L := ⟨_, rfl⟩
    rw [hL] at h1 hfin
    have HL := Lib.hid hL
    clear hL
    obtain ⟨A, cap, rfl, _, _, _⟩ := h1.row.slice
    have hcell : w1.cell? ⟨g, 0, none⟩ = some (.slice A L.length cap) := h1.head.here rfl
    have hs := h1.small
    have H1 := Lib.hid h1; have C1 := Lib.hid c1
    clear h1 c1 hn
    go_wp2_with fail
    go_loopw [6, 18] (fun n i wr => ∃ k : Nat, k ≤ L.length ∧ i = .int .i64 k ∧ n = .int .i64 (((L.take k).countP Tide.free : Nat) : Int) ∧ Below w1.heap.size w1 wr) (fun _ i _ => L.length - (intOf i).toNat)
    case atStart => exact ⟨0, by omega, rfl, by simp, Below.refl _ _⟩
    case round =>
      clear hcell
      obtain ⟨k, hk, rfl, rfl, hb⟩ := hrel
      by_cases hlt : k < L.length
      · obtain ⟨m, hm⟩ := Tide.get_some L hlt
        obtain ⟨b, cap', e, hS, hgb, k1, k2, c0, c1, c2, _, _, _⟩ := H1.out.msg (by decide) hm
        cases e
        have hbl : b < w1.heap.size := H1.out.lim b hS
        have d0 := (hb.cell (p := ⟨b, k * 3, none⟩) hbl).trans c0
        have d1 := (hb.cell (p := ⟨b, k * 3 + 1, none⟩) hbl).trans c1
        have d2 := (hb.cell (p := ⟨b, k * 3 + 2, none⟩) hbl).trans c2
        have i0 : (0 : Int) ≤ (k : Int) := by omega
        have i1 : (k : Int) < (L.length : Int) := by omega
        have HC := Lib.hid (Tide.count_snoc (p := Tide.free) hm)
        have hle : (L.take k).countP Tide.free ≤ 200 := Nat.le_trans List.countP_le_length (by rw [List.length_take]; omega)
        generalize (L.take k).countP Tide.free = N at HC hle ⊢
        have hle' : (N : Int) ≤ 200 := by omega
        have HB := Lib.hid (hb.alloc hb.size (.cells #[.int .i64 m.id, .int .i64 m.till, .bool m.taken] 143))
        clear hm c0 c1 c2 hb k1 k2 hle
        cases ht : m.taken
        · rw [ht] at d2 HB
          have HT := Lib.hid (show Tide.free m = true by unfold Tide.free; rw [ht]; rfl)
          clear ht
          go_wp2_with fail
          go_roundw
          case rel => exact ⟨k + 1, by omega, by go_num, by rw [HC.out, HT.out]; go_num, HB.out⟩
          case measure => simp [intOf]; omega
        · rw [ht] at d2 HB
          have HT := Lib.hid (show Tide.free m = false by unfold Tide.free; rw [ht]; rfl)
          clear ht
          go_wp2_with fail
          go_roundw
          case rel => exact ⟨k + 1, by omega, by go_num, by rw [HC.out, HT.out]; go_num, HB.out⟩
          case measure => simp [intOf]; omega
      · have HQ := Lib.hid (H1.out.chg (Tide.Chg.of_below (S := fun _ => False) hb (Nat.le_refl _)) (fun _ _ h => h))
        have HC := Lib.hid (C1.out.step_below hb C1.out.size)
        have hke : k = L.length := by omega
        subst hke
        clear hb
        rw [List.take_length]
        go_wp2_with fail
        go_ret2
        exact ⟨(by rw [hfin.out.1, hfin.out.2] <;> rfl), by rw [HL.out]; exact HQ.out, HC.out⟩
def QNewPost (T : TypeId) (w : World) (e : Ending) (w' : World) : Prop := ∃ g v, e = .returned (.pointer (some ⟨g, 0, none⟩)) ∧ QAt T (Tide.Plus (fun _ => False) w w') w' g v [] 0 ∧ Below w.heap.size w w'
theorem qnew_made (T : TypeId) (w : World) : QNewPost T w (.returned (.pointer (some ⟨w.heap.size, 0, none⟩))) (w.alloc (.cells #[.slice none 0 0, .int .i64 0] T)) :=
  ⟨_, _, rfl, ⟨Tide.At.made w T _, Tide.OwnRow.nil _ _ _ _, .inr ⟨Nat.le_refl _, by simp⟩, by simp, fun b hb => by rcases hb with hb | hb; exact hb.elim; exact hb.2⟩, (Below.refl _ _).alloc (Nat.le_refl _) _⟩
set_option maxHeartbeats 400000 in
theorem queNew (w : World) : Calls Tryz.prog 27 #[] w (QNewPost 134 w) := by
  go_enter Tryz.func27, Tryz.ntmps27
  go_wp2_with fail
  go_ret
  exact qnew_made _ _
end Go.Proofs.YtidonhndeohdlaaGreatDoor
