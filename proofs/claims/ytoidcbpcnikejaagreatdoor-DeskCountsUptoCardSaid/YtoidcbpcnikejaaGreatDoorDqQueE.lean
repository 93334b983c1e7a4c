/- The contracts of package queue: Lease, Ack, All, Depth, New. -/
import Derived.Test.YtoidcbpcnikejaaGreatDoorDq12
set_option linter.unusedVariables false
set_option linter.unusedSimpArgs false
set_option maxRecDepth 100000
set_option maxHeartbeats 12800000
namespace Go.Proofs.YtoidcbpcnikejaaGreatDoor
open Go.RowKit
def LeasePost (T : TypeId) (S : Nat → Prop) (w : World) (g : Nat) (v : Value) (l : List G.Msg) (last now ticks : Int) (e : Ending) (w' : World) : Prop :=
 e = .returned (.tuple #[.int .i64 (G.leaseNum l now ticks), .int .i64 (G.leaseErr l now ticks)]) ∧ QAt T S w' g v (G.leaseLst l now ticks) last ∧ G.Chg S w w'
theorem lease_no {T : TypeId} {S : Nat → Prop} {w w' : World} {g : Nat} {v : Value} {l : List G.Msg} {last now ticks : Int} (h : QAt T S w' g v l last) (hc : G.Chg S w w') (hn : G.leaseOk now ticks = false) : LeasePost T S w g v l last now ticks (.returned (.tuple #[.int .i64 0, .int .i64 1])) w' := by
 refine ⟨by simp [G.leaseNum, G.leaseErr, hn], ?_, hc⟩
 simp only [G.leaseLst, hn, Bool.false_eq_true, if_false]; exact h
theorem modify_at {α : Type} {l : List α} {i : Nat} {a : α} {f : α → α} (h : l[i]? = some a) : l.modify i f = l.set i (f a) := by
 apply List.ext_getElem?
 intro j
 rw [List.getElem?_modify, List.getElem?_set]
 by_cases hj : i = j
 ·subst hj; rw [h]; simp [G.get_lt h]
 simp [hj]
theorem queLease (S : Nat → Prop) (g : Nat) (v : Value) (l : List G.Msg) (last now ticks : Int) (w : World) (h : QAt 225 S w g v l last) :
  Calls Tryz.prog 93 #[.pointer (some ⟨g, 0, none⟩), .int .i64 now, .int .i64 ticks] w (LeasePost 225 S w g v l last now ticks) := by
 by_cases h0 : ticks < 1
 ·have HF := J (lease_no (now := now) (ticks := ticks) h (G.Chg.refl _ _) (by unfold G.leaseOk; simp; omega))
  clear h
  go_enter Tryz.func93, Tryz.ntmps93
  go_wp2_with fail
  go_ret2
  exact HF.u
 by_cases h1 : 100000 < ticks
 ·have HF := J (lease_no (now := now) (ticks := ticks) h (G.Chg.refl _ _) (by unfold G.leaseOk; simp; omega))
  clear h
  go_enter Tryz.func93, Tryz.ntmps93
  go_wp2_with fail
  go_ret2
  exact HF.u
 have t0 : 1 ≤ ticks := by omega
 have t1 : ticks ≤ 100000 := by omega
 have HH := J h
 clear h h0 h1
 go_enter Tryz.func93, Tryz.ntmps93
 go_wp2_with fail
 refine (queAt S g v l last now _ HH.u).mono ?_
 rintro e w1 ⟨rfl, h1, c1⟩
 cases hn : G.nowOk now
 ·rw [show G.nowLst l now = l by unfold G.nowLst; rw [hn]; rfl] at h1
  have HF := J (lease_no (now := now) (ticks := ticks) h1 c1 (by unfold G.leaseOk; rw [hn]; simp))
  clear h1 c1 hn
  go_wp2_with fail
  go_ret2
  exact HF.u
 rw [show G.nowLst l now = G.backAll now l by unfold G.nowLst; rw [hn]; rfl] at h1
 have hnn : 0 ≤ now ∧ now ≤ 1099511627776 := by unfold G.nowOk at hn; simpa using hn
 obtain ⟨n0, n1⟩ := hnn
 have hok := J (show G.leaseOk now ticks = true by unfold G.leaseOk; rw [hn]; simp [t0, t1])
 have hcell : w1.cell? ⟨g, 0, none⟩ = some v := h1.head.here rfl
 have H1 := J h1; have C1 := J c1
 clear h1 c1 hn
 go_wp2_with fail
 refine (queL_index G.free (G.backAll now l) v _ (H1.u.row.list G.Msg.enc_length) (by have := H1.u.small; omega) (fun m W _ => queFree m W)).mono ?_
 rintro e w2 ⟨rfl, hb2⟩
 have H2 := J (H1.u.chg (G.Chg.of_below (S := fun _ => False) hb2 (Nat.le_refl _)) (fun _ _ h => h))
 have C2 := J (C1.u.step_below hb2 C1.u.size)
 clear hb2 hcell
 cases hf : G.firstAt G.free (G.backAll now l)
 ·have HF := J (show LeasePost 225 S w g v l last now ticks (.returned (.tuple #[.int .i64 0, .int .i64 4])) w2 from ⟨by simp only [G.leaseNum, G.leaseErr, hok.u, if_true, hf], by simp only [G.leaseLst, hok.u, if_true, hf]; exact H2.u, C2.u⟩)
  simp only [G.idxOf]
  clear hf
  go_wp2_with fail
  go_ret2
  exact HF.u
 rename_i i
 obtain ⟨m, hm, hfm, _⟩ := G.firstAt_spec hf
 obtain ⟨b, cap, rfl, hS, hgb, k1, k2, c0, c1, c2, f0, f1, f2⟩ := H2.u.msg (by decide) hm
 have hil : i < (G.backAll now l).length := G.get_lt hm
 have hcg : w2.cell? ⟨g, 0, none⟩ = _ := H2.u.head.here (i := 0) rfl
 have i0 : (0 : Int) ≤ (i : Int) := by omega
 have i1 : (i : Int) < ((G.backAll now l).length : Int) := by omega
 have HM := J hm; have HFF := J hf
 clear hm hf hfm k1 k2
 simp only [G.idxOf]
 go_wp2_with fail
 go_region
 all_goals
  have HQ := J (H2.u.put2 (by decide) HM.u (now + ticks) true)
  have HF := J (show LeasePost 225 S w g (.slice (some ⟨b, 0, none⟩) (G.backAll now l).length cap) l last now ticks (.returned (.tuple #[.int .i64 m.id, .int .i64 0])) _ from ⟨by simp [G.leaseNum, G.leaseErr, hok.u, HFF.u, HM.u], by simp only [G.leaseLst, hok.u, if_true, HFF.u]; rw [modify_at HM.u]; exact HQ.u.1.drew, C2.u.trans HQ.u.2.drew⟩)
  go_wp2_with fail
  go_ret2
  exact HF.u
theorem flat_one {l : List G.Msg} : ∀ u ∈ l.flatMap G.Msg.enc, u.oneCell' = true := by
 intro u hu
 obtain ⟨m, _, hm⟩ := List.mem_flatMap.1 hu
 simp only [G.Msg.enc, List.mem_cons, List.not_mem_nil, or_false] at hm
 rcases hm with rfl | rfl | rfl <;> rfl
theorem QAt.cut {T : TypeId} {S : Nat → Prop} {w w3 : World} {g b cap : Nat} {l : List G.Msg} {last : Int} (h : QAt T S w g (.slice (some ⟨b, 0, none⟩) l.length cap) l last) (hT : T ≠ 237) {i : Nat} (hi : i < l.length) (hgb : g ≠ b)
  (h3 : G.OwnRow S w3 237 3 (.slice (some ⟨b, 0, none⟩) (l.length - 1) cap) (l.length - 1) ((l.flatMap G.Msg.enc).take (i * 3) ++ (l.flatMap G.Msg.enc).drop ((i + 1) * 3))) (hc : G.Chg (fun x => x = b) w w3) :
  w3.cell? ⟨g, 0, none⟩ = some (.slice (some ⟨b, 0, none⟩) l.length cap) ∧ w3.frozen? ⟨g, 0, none⟩ = false ∧
  QAt T S (w3.setCell ⟨g, 0, none⟩ (.slice (some ⟨b, 0, none⟩) (l.length - 1) cap)) g (.slice (some ⟨b, 0, none⟩) (l.length - 1) cap) (l.eraseIdx i) last ∧ G.Chg S w (w3.setCell ⟨g, 0, none⟩ (.slice (some ⟨b, 0, none⟩) (l.length - 1) cap)) := by
 obtain ⟨b', cap', e, hS, _⟩ := h.row.form (by omega)
 cases e
 have hd := h.head.chg hc hgb
 have e1 : (l.eraseIdx i).length = l.length - 1 := by rw [List.length_eraseIdx]; simp [hi]
 refine ⟨hd.here rfl, hd.soft 0, ⟨hd.put 0 _, ?_, h.own, by rw [e1]; have := h.small; omega, fun c hc' => by rw [G.size_put]; exact Nat.lt_of_lt_of_le (h.lim c hc') hc.size⟩, (hc.mono (fun k _ e => by rw [e]; exact hS)).put (.inl h.own) _⟩
 rw [e1, G.flat_erase G.Msg.enc_length]
 exact h3.aside (p := ⟨g, 0, none⟩) (fun c hc' => by simp [Value.ownBlock] at hc'; show c ≠ g; omega) _
def AckPost (T : TypeId) (S : Nat → Prop) (w : World) (g : Nat) (l : List G.Msg) (last now id : Int) (e : Ending) (w' : World) : Prop :=
 e = .returned (.int .i64 (G.ackErr l now id)) ∧ (∃ v', QAt T S w' g v' (G.ackLst l now id) last) ∧ G.Chg S w w'
theorem queAck (S : Nat → Prop) (g : Nat) (v : Value) (l : List G.Msg) (last now id : Int) (w : World) (h : QAt 225 S w g v l last) :
  Calls Tryz.prog 94 #[.pointer (some ⟨g, 0, none⟩), .int .i64 now, .int .i64 id] w (AckPost 225 S w g l last now id) := by
 have HH := J h
 have hgw : g < w.heap.size := h.head.inside
 clear h
 go_enter Tryz.func94, Tryz.ntmps94
 go_wp2_with fail
 refine (queAt S g v l last now _ (HH.u.alloc _)).mono ?_
 rintro e w1 ⟨rfl, h1, c1⟩
 have hbx : w1.cell? ⟨w.heap.size, 0, none⟩ = some (.int .i64 id) := by
  exact ((G.At.made w _ _).chg c1 (fun hS => absurd (HH.u.lim _ hS) (Nat.lt_irrefl _))).here rfl
 cases hn : G.nowOk now
 ·rw [show G.nowLst l now = l by unfold G.nowLst; rw [hn]; rfl] at h1
  have HF := J (show AckPost 225 S w g l last now id (.returned (.int .i64 1)) w1 from ⟨by simp [G.ackErr, hn], ⟨v, by simp only [G.ackLst, hn, Bool.false_eq_true, if_false]; exact h1⟩, ((G.Chg.refl S w).alloc _).trans c1⟩)
  clear h1 c1 hn
  go_wp2_with fail
  go_ret
  exact HF.u
 rw [show G.nowLst l now = G.backAll now l by unfold G.nowLst; rw [hn]; rfl] at h1
 have hcell : w1.cell? ⟨g, 0, none⟩ = some v := h1.head.here rfl
 have H1 := J h1; have C1 := J (((G.Chg.refl S w).alloc _).trans c1); have HN := J hn; have HBX := J hbx
 clear h1 c1 hn
 go_wp2_with fail
 refine (queA_index w.heap.size (G.isId id) (G.backAll now l) v _ (H1.u.row.list G.Msg.enc_length) (by have := H1.u.small; omega) (fun m W hW => queIs id _ m W ((hW.cell (World.block_lt_of_cell? w1 _ HBX.u)).trans HBX.u))).mono ?_
 rintro e w2 ⟨rfl, hb2⟩
 have H2 := J (H1.u.chg (G.Chg.of_below (S := fun _ => False) hb2 (Nat.le_refl _)) (fun _ _ h => h))
 have C2 := J (C1.u.step_below hb2 C1.u.size)
 clear hb2 hcell hbx
 cases hf : G.firstAt (G.isId id) (G.backAll now l)
 ·have HF := J (show AckPost 225 S w g l last now id (.returned (.int .i64 4)) w2 from ⟨by simp only [G.ackErr, HN.u, if_true, hf], ⟨v, by simp only [G.ackLst, HN.u, if_true, hf]; exact H2.u⟩, C2.u⟩)
  simp only [G.idxOf]
  clear hf
  go_wp2_with fail
  go_ret
  exact HF.u
 rename_i i
 obtain ⟨m, hm, hfm, _⟩ := G.firstAt_spec hf
 obtain ⟨b, cap, rfl, hS, hgb, k1, k2, c0, c1, c2, f0, f1, f2⟩ := H2.u.msg (by decide) hm
 have hil : i < (G.backAll now l).length := G.get_lt hm
 have hcg := H2.u.head.here (i := 0) rfl
 have i0 : (0 : Int) ≤ (i : Int) := by omega
 have i1 : (i : Int) < ((G.backAll now l).length : Int) := by omega
 have HM := J hm; have HFF := J hf
 clear hm hf hfm k1 k2
 simp only [G.idxOf]
 cases ht : m.taken
 ·have HF := J (show AckPost 225 S w g l last now id (.returned (.int .i64 7)) w2 from ⟨by simp [G.ackErr, HN.u, HFF.u, HM.u, ht], ⟨_, by simp only [G.ackLst, HN.u, if_true, HFF.u, HM.u, ht, Bool.false_eq_true, if_false]; exact H2.u⟩, C2.u⟩)
  rw [ht] at c2
  clear ht
  go_wp2_with fail
  go_ret
  exact HF.u
 rw [ht] at c2
 have HT := J ht
 have hs := H2.u.small
 clear ht
 go_wp2_with fail
 refine (que_delete S _ b cap _ i _ H2.u.row hil flat_one).mono ?_
 rintro e w3 ⟨rfl, h3, c3⟩
 obtain ⟨q0, q1, q2⟩ := H2.u.cut (by decide) hil hgb h3 c3
 have HF := J (show AckPost 225 S w g l last now id (.returned (.int .i64 0)) _ from ⟨by simp [G.ackErr, HN.u, HFF.u, HM.u, HT.u], ⟨_, by simp only [G.ackLst, HN.u, if_true, HFF.u, HM.u, HT.u]; exact q2.1⟩, C2.u.trans q2.2⟩)
 clear h3 c3 q2
 go_wp2_with fail
 go_ret
 exact HF.u
theorem queDepth (S : Nat → Prop) (g : Nat) (v : Value) (l : List G.Msg) (last now : Int) (w : World) (h : QAt 225 S w g v l last) :
  Calls Tryz.prog 179 #[.pointer (some ⟨g, 0, none⟩), .int .i64 now] w fun e w' => e = .returned (.tuple #[.int .i64 (G.depthNum l now), .int .i64 (G.nowErr now)]) ∧ QAt 225 S w' g v (G.nowLst l now) last ∧ G.Chg S w w' := by
 have HH := J h
 clear h
 go_enter Tryz.func179, Tryz.ntmps179
 go_wp2_with fail
 refine (queAt S g v l last now _ HH.u).mono ?_
 rintro e w1 ⟨rfl, h1, c1⟩
 cases hn : G.nowOk now
 ·have H1 := J h1; have C1 := J c1; have HN := J hn
  clear h1 c1 hn
  go_wp2_with fail
  go_ret2
  exact ⟨by simp [G.depthNum, G.nowErr, HN.u], H1.u, C1.u⟩
 have hfin := J (show G.depthNum l now = (((G.nowLst l now).countP G.free : Nat) : Int) ∧ G.nowErr now = 0 by simp [G.depthNum, G.nowErr, G.nowLst, hn])
 obtain ⟨L, hL⟩ : ∃ L, G.nowLst l now = L := ⟨_, rfl⟩
 rw [hL] at h1 hfin
 have HL := J hL
 clear hL
 obtain ⟨A, cap, rfl, _, _, _⟩ := h1.row.slice
 have hcell := h1.head.here (i := 0) rfl
 have hs := h1.small
 have H1 := J h1; have C1 := J c1
 clear h1 c1 hn
 go_wp2_with fail
 go_loopw [6, 18] (fun n i wr => ∃ k : Nat, k ≤ L.length ∧ i = .int .i64 k ∧ n = .int .i64 (((L.take k).countP G.free : Nat) : Int) ∧ Below w1.heap.size w1 wr) (fun _ i _ => L.length - (intOf i).toNat)
 case atStart => exact ⟨0, by omega, rfl, by simp, Below.refl _ _⟩
 clear hcell
 obtain ⟨k, hk, rfl, rfl, hb⟩ := hrel
 by_cases hlt : k < L.length
 ·obtain ⟨m, hm⟩ := G.get_some L hlt
  obtain ⟨b, cap', e, hS, hgb, k1, k2, c0, c1, c2, _, _, _⟩ := H1.u.msg (by decide) hm
  cases e
  have hbl : b < w1.heap.size := H1.u.lim b hS
  have d0 := (hb.cell (p := ⟨b, k * 3, none⟩) hbl).trans c0
  have d1 := (hb.cell (p := ⟨b, k * 3 + 1, none⟩) hbl).trans c1
  have d2 := (hb.cell (p := ⟨b, k * 3 + 2, none⟩) hbl).trans c2
  have i0 : (0 : Int) ≤ (k : Int) := by omega
  have i1 : (k : Int) < (L.length : Int) := by omega
  have HC := J (G.count_snoc (p := G.free) hm)
  have hle : (L.take k).countP G.free ≤ 200 := Nat.le_trans List.countP_le_length (by rw [List.length_take]; omega)
  generalize (L.take k).countP G.free = N at HC hle ⊢
  have hle' : (N : Int) ≤ 200 := by omega
  have HB := J (hb.alloc hb.size (.cells #[.int .i64 m.id, .int .i64 m.till, .bool m.taken] 237))
  clear hm c0 c1 c2 hb k1 k2 hle
  cases ht : m.taken
  ·rw [ht] at d2 HB
   have HT := J (show G.free m = true by unfold G.free; rw [ht]; rfl)
   clear ht
   go_wp2_with fail
   go_roundw
   case rel => exact ⟨k + 1, by omega, by go_num, by rw [HC.u, HT.u]; go_num, HB.u⟩
   case measure => simp [intOf]; omega
  rw [ht] at d2 HB
  have HT := J (show G.free m = false by unfold G.free; rw [ht]; rfl)
  clear ht
  go_wp2_with fail
  go_roundw
  case rel => exact ⟨k + 1, by omega, by go_num, by rw [HC.u, HT.u]; go_num, HB.u⟩
  case measure => simp [intOf]; omega
 have HQ := J (H1.u.chg (G.Chg.of_below (S := fun _ => False) hb (Nat.le_refl _)) (fun _ _ h => h))
 have HC := J (C1.u.step_below hb C1.u.size)
 have hke : k = L.length := by omega
 subst hke
 clear hb
 rw [List.take_length]
 go_wp2_with fail
 go_ret2
 exact ⟨(by rw [hfin.u.1, hfin.u.2] <;> rfl), by rw [HL.u]; exact HQ.u, HC.u⟩
def QNewPost (T : TypeId) (w : World) (e : Ending) (w' : World) : Prop := ∃ g v, e = .returned (.pointer (some ⟨g, 0, none⟩)) ∧ QAt T (G.Plus (fun _ => False) w w') w' g v [] 0 ∧ Below w.heap.size w w'
theorem qnew_made (T : TypeId) (w : World) : QNewPost T w (.returned (.pointer (some ⟨w.heap.size, 0, none⟩))) (w.alloc (.cells #[.slice none 0 0, .int .i64 0] T)) :=
 ⟨_, _, rfl, ⟨G.At.made w T _, G.OwnRow.nil _ _ _ _, .inr ⟨Nat.le_refl _, by simp⟩, by simp, fun b hb => by rcases hb with hb | hb; exact hb.elim; exact hb.2⟩, (Below.refl _ _).alloc (Nat.le_refl _) _⟩
theorem queNew (w : World) : Calls Tryz.prog 80 #[] w (QNewPost 225 w) := by
 go_enter Tryz.func80, Tryz.ntmps80
 go_wp2_with fail
 go_ret
 exact qnew_made _ _
end Go.Proofs.YtoidcbpcnikejaaGreatDoor
