/- Parts of this claim: QueR, QueS, SekL, SpanR. -/
import Derived.Test.YtidonhndeohdlaaGreatWlQueE
import Derived.Test.YtidonhndeohdlaaGreatWlSekF
set_option linter.unusedVariables false
set_option linter.unusedSimpArgs false
set_option maxRecDepth 100000
set_option maxHeartbeats 12800000
namespace Go.Proofs.YtidonhndeohdlaaGreat
open Go.RowKit
theorem QAt.put3 {T : TypeId} {S : Nat → Prop} {w : World} {g b cap n : Nat} {l : List G.Msg} {last : Int} (h : QAt T S w g (.slice (some ⟨b, 0, none⟩) n cap) l last) (hT : T ≠ 111) {k : Nat} {m : G.Msg} (hk : l[k]? = some m) (d t : Int) (x : Bool) :
  QAt T S (((w.setCell ⟨b, k * 3, none⟩ (.int .i64 d)).setCell ⟨b, k * 3 + 1, none⟩ (.int .i64 t)).setCell ⟨b, k * 3 + 2, none⟩ (.bool x)) g (.slice (some ⟨b, 0, none⟩) n cap) (l.set k ⟨d, t, x⟩) last ∧
  G.Chg S w (((w.setCell ⟨b, k * 3, none⟩ (.int .i64 d)).setCell ⟨b, k * 3 + 1, none⟩ (.int .i64 t)).setCell ⟨b, k * 3 + 2, none⟩ (.bool x)) := by
 have hkl := G.get_lt hk
 obtain ⟨b', cap', e, hS, h1, h2, h3⟩ := h.row.form (by omega)
 cases e
 have hgb : g ≠ b := (h3.apartAt h.head (Ne.symm hT)).symm
 have hr := h.row
 have f0 := G.flat_lt G.Msg.enc_length hkl (show 0 < 3 by omega)
 have f1 := G.flat_lt G.Msg.enc_length hkl (show 1 < 3 by omega)
 have f2 := G.flat_lt G.Msg.enc_length hkl (show 2 < 3 by omega)
 refine ⟨⟨((h.head.other (p := ⟨b, k * 3, none⟩) hgb _).other (p := ⟨b, k * 3 + 1, none⟩) hgb _).other (p := ⟨b, k * 3 + 2, none⟩) hgb _, ?_, h.own, by rw [List.length_set]; exact h.small, fun b hb => by rw [G.size_put, G.size_put, G.size_put]; exact h.lim b hb⟩,
  (((G.Chg.refl S w).put (p := ⟨b, k * 3, none⟩) (.inl hS) _).put (p := ⟨b, k * 3 + 1, none⟩) (.inl hS) _).put (p := ⟨b, k * 3 + 2, none⟩) (.inl hS) _⟩
 have p1 := ((hr.put (i := k * 3) f0 (.int .i64 d)).put (i := k * 3 + 1) (by rw [List.length_set]; exact f1) (.int .i64 t)).put (i := k * 3 + 2) (by rw [List.length_set, List.length_set]; exact f2) (.bool x)
 have e0 := G.flat_set (j := 0) (u := .int .i64 d) (a' := ⟨d, m.till, m.taken⟩) G.Msg.enc_length hk (by omega) rfl
 rw [Nat.add_zero] at e0
 rw [e0, G.flat_set (a := ⟨d, m.till, m.taken⟩) (a' := ⟨d, t, m.taken⟩) G.Msg.enc_length (by simp [hkl]) (by omega) rfl, List.set_set, G.flat_set (a := ⟨d, t, m.taken⟩) (a' := ⟨d, t, x⟩) G.Msg.enc_length (by simp [hkl]) (by omega) rfl, List.set_set] at p1
 rw [List.length_set]
 exact p1
theorem linAt (S : Nat → Prop) (g : Nat) (v : Value) (l : List G.Msg) (last now : Int) (w : World) (h : QAt 74 S w g v l last) :
  Calls Tryz.prog 86 #[.pointer (some ⟨g, 0, none⟩), .int .i64 now] w fun e w' => e = .returned (.bool (G.nowOk now)) ∧ QAt 74 S w' g v (G.nowLst l now) last ∧ G.Chg S w w' := by
 by_cases h0 : 0 ≤ now ∧ now ≤ 1099511627776
 ·obtain ⟨n0, n1⟩ := h0
  have e : G.nowOk now = true := by unfold G.nowOk; simp; omega
  rw [show G.nowLst l now = G.backAll now l by unfold G.nowLst; rw [e]; rfl, e]
  obtain ⟨A, cap, rfl, k1, k2, _⟩ := h.row.slice
  have hs := h.small
  have HH := J h
  clear h e k1 k2
  go_enter Tryz.func86, Tryz.ntmps86
  go_wp2_with fail
  refine (refIn_yes _ _ _ _ n0 n1).mono ?_
  rintro e w' ⟨rfl, rfl⟩
  go_wp2_with fail
  go_loopw [5] (fun i wr => ∃ k : Nat, k ≤ l.length ∧ i = .int .i64 k ∧ QAt 74 S wr g (.slice A l.length cap) (G.upTo (G.back now) l k) last ∧ G.Chg S w wr) (fun i _ => l.length - (intOf i).toNat)
  case atStart => exact ⟨0, by omega, rfl, by rw [G.upTo_zero]; exact HH.u, G.Chg.refl _ _⟩
  obtain ⟨k, hk, rfl, hq, hch⟩ := hrel
  have hcg := hq.head.here (i := 0) rfl
  by_cases hlt : k < l.length
  ·obtain ⟨m, hm⟩ := G.get_some l hlt
   have hm2 : (G.upTo (G.back now) l k)[k]? = some m := by rw [G.upTo_get]; exact hm
   obtain ⟨b, cap', e, hS, hgb, k1, k2, c0, c1, c2, f0, f1, f2⟩ := hq.msg (by decide) hm2
   rw [G.upTo_length] at e
   cases e
   have i0 : (0 : Int) ≤ (k : Int) := by omega
   have i1 : (k : Int) < (l.length : Int) := by omega
   by_cases ht : m.taken = true ∧ m.till ≤ now
   ·obtain ⟨t1, t2⟩ := ht
    have HN := J (hq.put3 (by decide) hm2 m.id 0 false)
    have HE := J (G.upTo_succ (f := G.back now) hm)
    have HB := J (show G.back now m = ⟨m.id, 0, false⟩ by unfold G.back; rw [t1]; simp [t2])
    have HC := J hch
    clear hq hch hm hm2 k1 k2
    go_wp2_with fail
    go_region
    all_goals
     go_wp2_with fail
     go_roundw
     case rel => exact ⟨k + 1, by omega, by go_num, by rw [← HE.u, HB.u]; exact HN.u.1.drew, (HC.u.trans HN.u.2).drew⟩
     case measure => simp [intOf]; omega
   have HB := J (G.upTo_same (f := G.back now) hm (by unfold G.back; rw [if_neg]; simpa using ht))
   have HQ := J hq
   have HC := J hch
   clear hq hch hm hm2 k1 k2
   cases t1 : m.taken
   ·rw [t1] at c2
    clear ht t1
    go_wp2_with fail
    go_roundw
    case rel => exact ⟨k + 1, by omega, by go_num, by rw [HB.u]; exact HQ.u, HC.u⟩
    case measure => simp [intOf]; omega
   rw [t1] at c2
   have t2 : now < m.till := by
    rcases Int.lt_or_le now m.till with c | c
    ·exact c
    exact absurd ⟨t1, c⟩ ht
   clear ht t1
   go_wp2_with fail
   go_roundw
   case rel => exact ⟨k + 1, by omega, by go_num, by rw [HB.u]; exact HQ.u, HC.u⟩
   case measure => simp [intOf]; omega
  have hke : k = l.length := by omega
  have HE := J (G.upTo_all (G.back now) l)
  rw [hke] at hq
  have HQ := J hq
  have HC := J hch
  clear hq hch hke
  go_wp2_with fail
  go_ret
  exact ⟨rfl, by have := HQ.u; rw [HE.u] at this; exact this, HC.u⟩
 have hb : now < 0 ∨ 1099511627776 < now := by omega
 have e : G.nowOk now = false := by unfold G.nowOk; simp; omega
 have HH := J h
 rw [show G.nowLst l now = l by unfold G.nowLst; rw [e]; rfl, e]
 clear h e h0
 go_enter Tryz.func86, Tryz.ntmps86
 go_wp2_with fail
 refine (refIn_no _ _ _ _ hb).mono ?_
 rintro e w' ⟨rfl, rfl⟩
 go_wp2_with fail
 go_ret
 exact ⟨rfl, HH.u, G.Chg.refl _ _⟩
theorem put_round2 {T : TypeId} {S : Nat → Prop} {w wr w1 : World} {g b cap : Nat} {v : Value} {l : List G.Msg} {last : Int} {m : G.Msg} {o : Obj} (hq : QAt T (G.Plus S w wr) wr g v l last)
  (hc : G.Chg S w wr) (hT : T ≠ 111) (hl : l.length < 200)
  (h1 : w1.ownsRow 0 111 3 (.slice (some ⟨b, 0, none⟩) (l.length + 1) cap) (l.length + 1) (l.flatMap G.Msg.enc ++ m.enc)) (hg : (wr.alloc o).drew.grownBy w1 v.ownBlock)
  (ho : v.ownBlock = some b ∨ b = (wr.alloc o).drew.heap.size) (hlt : b < w1.heap.size) :
  QAt T (G.Plus S w (w1.setCell ⟨g, 0, none⟩ (.slice (some ⟨b, 0, none⟩) (l.length + 1) cap))) (w1.setCell ⟨g, 0, none⟩ (.slice (some ⟨b, 0, none⟩) (l.length + 1) cap)) g (.slice (some ⟨b, 0, none⟩) (l.length + 1) cap) (l ++ [m]) last ∧
  G.Chg S w (w1.setCell ⟨g, 0, none⟩ (.slice (some ⟨b, 0, none⟩) (l.length + 1) cap)) := by
 obtain ⟨q1, q2⟩ := (hq.alloc o).drew.appended hT hl h1 hg ho hlt
 have z1 := hc.size
 have z2 : (wr.alloc o).drew.heap.size = wr.heap.size + 1 := by show (wr.alloc o).heap.size = _; simp
 have z3 := q2.size
 refine ⟨q1.mono (fun c hlt hb => ?_) (fun c hb => ?_), ?_⟩
 ·rcases hb with hb | hb
  ·exact hb.up (by omega)
  exact .inr ⟨by omega, hlt⟩
 ·rcases hb with hb | hb
  ·have := hq.lim c (.inl hb); omega
  exact hb.2
 have s1 : G.Chg (G.Plus S w wr) wr (wr.alloc o).drew := ((G.Chg.refl _ wr).alloc o).drew
 exact hc.plus (s1.trans q2)
theorem QAt.tickP {T : TypeId} {S : Nat → Prop} {w0 w : World} {g : Nat} {v : Value} {l : List G.Msg} {last : Int} (h : QAt T (G.Plus S w0 w) w g v l last) (hT : T ≠ 111) (x : Int) : QAt T (G.Plus S w0 (w.setCell ⟨g, 1, none⟩ (.int .i64 x))) (w.setCell ⟨g, 1, none⟩ (.int .i64 x)) g v l x := by
 have e := G.size_put w ⟨g, 1, none⟩ (.int .i64 x)
 have e2 : ∀ b, G.Plus S w0 (w.setCell ⟨g, 1, none⟩ (.int .i64 x)) b ↔ G.Plus S w0 w b := fun b => by unfold G.Plus; rw [e]
 exact (h.tick hT x).mono (fun b _ hb => (e2 b).2 hb) (fun b hb => by rw [e]; exact h.lim b ((e2 b).1 hb))
theorem linPut (S : Nat → Prop) (g : Nat) (v : Value) (l : List G.Msg) (last n : Int) (w : World) (h : QAt 74 S w g v l last) (l0 : 0 ≤ last) (l1 : last ≤ 4000000000000000000) :
  Calls Tryz.prog 35 #[.pointer (some ⟨g, 0, none⟩), .int .i64 n] w (PutPost 74 S w g l last n) := by
 obtain ⟨A, cap, rfl, k1, k2, _⟩ := h.row.slice
 have hc := h.head.here (i := 0) rfl
 have hs := h.small
 have HH := J h
 clear h k1 k2
 by_cases h0 : n < 1
 ·have HF := J (show PutPost 74 S w g l last n (.returned (.tuple #[.int .i64 0, .int .i64 1])) w from ⟨by simp [G.putNum, G.putErr, h0], ⟨_, by simp [G.putLst, G.putLast, h0]; exact HH.u.up⟩, G.Chg.refl _ _⟩)
  go_enter Tryz.func35, Tryz.ntmps35
  go_wp2_with fail
  go_ret2
  exact HF.u
 by_cases h1 : 200 < n + l.length
 ·have HF := J (show PutPost 74 S w g l last n (.returned (.tuple #[.int .i64 0, .int .i64 6])) w from ⟨by simp [G.putNum, G.putErr, h0, h1], ⟨_, by simp [G.putLst, G.putLast, h0, h1]; exact HH.u.up⟩, G.Chg.refl _ _⟩)
  by_cases h2 : 200 < n
  ·go_enter Tryz.func35, Tryz.ntmps35
   go_wp2_with fail
   go_ret2
   exact HF.u
  have h3 : 200 < (l.length : Int) + n := by omega
  have h4 : n ≤ 200 := by omega
  clear h2 h1
  go_enter Tryz.func35, Tryz.ntmps35
  go_wp2_with fail
  go_ret2
  exact HF.u
 obtain ⟨N, rfl⟩ := Int.eq_ofNat_of_zero_le (show 0 ≤ n by omega)
 have hN : N + l.length ≤ 200 := by omega
 have HF : ∀ w', (∃ v', QAt 74 (G.Plus S w w') w' g v' (l ++ G.newMsgs last N) (last + N)) → G.Chg S w w' → PutPost 74 S w g l last (N : Int) (.returned (.tuple #[.int .i64 (last + 1), .int .i64 0])) w' := fun w' ⟨v', hq⟩ hch =>
  ⟨by simp only [G.putNum, G.putErr, if_neg h0, if_neg h1], ⟨v', by simp only [G.putLst, G.putLast, if_neg h0, if_neg h1, Int.toNat_natCast]; exact hq⟩, hch⟩
 have HF' := J HF
 have h2 : (l.length : Int) + (N : Int) ≤ 200 := by omega
 have h3 : (1 : Int) ≤ (N : Int) := by omega
 have h4 : (N : Int) ≤ 200 := by omega
 obtain ⟨i0, hi, hz0, hz1, hz2⟩ := info_parts info_msg
 clear h0 h1 HF
 go_enter Tryz.func35, Tryz.ntmps35
 go_wp2_with fail
 go_loopw [6] (fun i wr => ∃ (k : Nat) (vk : Value), k ≤ N ∧ i = .int .i64 ((k : Int) + 1) ∧ QAt 74 (G.Plus S w wr) wr g vk (l ++ G.newMsgs last k) last ∧ G.Chg S w wr) (fun i _ => N + 1 - (intOf i).toNat)
 case atStart => exact ⟨0, _, by omega, rfl, by simpa [G.newMsgs] using HH.u.up, G.Chg.refl _ _⟩
 clear hc
 obtain ⟨k, vk, hk, rfl, hq, hch⟩ := hrel
 by_cases hlt : k < N
 ·have hL : (l ++ G.newMsgs last k).length < 200 := by simp [G.newMsgs_length]; omega
  have HL := J (show l ++ G.newMsgs last (k + 1) = (l ++ G.newMsgs last k) ++ [⟨last + (k + 1), 0, false⟩] by rw [G.newMsgs_succ, List.append_assoc, show last + 1 + (k : Int) = last + (k + 1) by omega])
  generalize l ++ G.newMsgs last k = L at hq hL HL ⊢
  have hc : wr.cell? ⟨g, 0, none⟩ = some vk := hq.head.here rfl
  have hd := hq.head.here (i := 1) rfl
  have f0 := hq.head.soft 0; have f1 := hq.head.soft 1
  have HQ := J hq
  have HC := J hch
  have hm3 : Hid (L.length + 1 ≤ maxLen) := by show _ ≤ _; simp only [maxLen]; omega
  have hm4 : Hid ((L.length + 1) * 24 ≤ 140737488355328) := by show _ ≤ _; omega
  have hLL := J hL
  have k0 : (k : Int) + 1 ≤ (N : Int) := by omega
  have k1 : (k : Int) ≤ 200 := by omega
  have hgw : g < wr.heap.size := hq.head.inside
  have hsum : IntKind.i64.wrap (last + ((k : Int) + 1)) = last + ((k : Int) + 1) := IntWalk.i64_in _ (by omega)
  clear hq hch hL
  go_wp2_with fail
  go_region_law (refine step_append_lies _ (by rfl) (.tmp 30) (.tmp 38) 72 (by rfl) 0 111 i0 (.agg #[.int .i64 0, .int .i64 0, .bool false]) 3 24 Tryz.underlying72 hi hz0 hz1 hz2 rfl (by decide) vk _ _ rfl (HQ.u.alloc _).drew.row.owns ⟨wr.heap.size, 0, none⟩ 1 1 [.int .i64 (last + (k + 1)), .int .i64 0, .bool false] rfl rfl (G.new_cells_at rfl) (by simp [Value.oneCell']) (by decide) hm3.u hm4.u (Nat.zero_le _) _ rfl ?_; intro gb cap1 w1 hown1 hg1 hl1 hl2; obtain ⟨c9, f9⟩ := (HQ.u.alloc _).drew.behind (by decide) hg1)
  all_goals
   have HR := J (put_round2 (m := ⟨last + (k + 1), 0, false⟩) HQ.u HC.u (by decide) hLL.u hown1 hg1 hl1 hl2)
   clear hown1 hg1 hl1 hl2 c9 f9 hc hd f0 f1
   go_wp2_with fail
   go_roundw
   case rel => exact ⟨k + 1, _, by omega, by go_num, by rw [HL.u]; exact HR.u.1, HR.u.2⟩
   case measure => simp [intOf]; omega
 have hke : k = N := by omega
 subst hke
 have hd := hq.head.here (i := 1) rfl
 have f1 := hq.head.soft 1
 have HF2 := J (HF'.u _ ⟨vk, hq.tickP (by decide) (last + k)⟩ (hch.put (p := ⟨g, 1, none⟩) (by rcases hq.own with h | h; exact .inl h; exact .inr h.1) _))
 clear hq hch
 go_wp2_with fail
 go_ret2
 exact HF2.u
theorem linLease (S : Nat → Prop) (g : Nat) (v : Value) (l : List G.Msg) (last now ticks : Int) (w : World) (h : QAt 74 S w g v l last) :
  Calls Tryz.prog 36 #[.pointer (some ⟨g, 0, none⟩), .int .i64 now, .int .i64 ticks] w (LeasePost 74 S w g v l last now ticks) := by
 by_cases ht : 1 ≤ ticks ∧ ticks ≤ 100000
 ·obtain ⟨t0, t1⟩ := ht
  have HH := J h
  clear h
  go_enter Tryz.func36, Tryz.ntmps36
  go_wp2_with fail
  refine (refIn_yes _ _ _ _ t0 t1).mono ?_
  rintro e w' ⟨rfl, rfl⟩
  go_wp2_with fail
  refine (linAt S g v l last now _ HH.u).mono ?_
  rintro e w1 ⟨rfl, h1, c1⟩
  cases hn : G.nowOk now
  ·rw [show G.nowLst l now = l by unfold G.nowLst; rw [hn]; rfl] at h1
   have HF := J (lease_no (now := now) (ticks := ticks) h1 c1 (by unfold G.leaseOk; rw [hn]; simp))
   clear h1 c1 hn
   go_wp2_with fail
   go_ret2
   exact HF.u
  rw [show G.nowLst l now = G.backAll now l by unfold G.nowLst; rw [hn]; rfl] at h1
  have hnn : 0 ≤ now ∧ now ≤ 1099511627776 := by unfold G.nowOk at hn; simpa using hn
  obtain ⟨n0, n1⟩ := hnn
  have hok := J (show G.leaseOk now ticks = true by unfold G.leaseOk; rw [hn]; simp [t0, t1])
  have hcell : w1.cell? ⟨g, 0, none⟩ = some v := h1.head.here rfl
  obtain ⟨A, cap, rfl, _, _, _⟩ := h1.row.slice
  have H1 := J h1; have C1 := J c1
  have hs := h1.small
  clear h1 c1 hn
  go_wp2_with fail
  go_loop [8] (fun i => ∃ k : Nat, k ≤ (G.backAll now l).length ∧ i = .int .i64 k ∧ Hid (∀ (t : Nat) (b : G.Msg), t < k → (G.backAll now l)[t]? = some b → G.free b = false)) (fun i => (G.backAll now l).length - (intOf i).toNat)
  case atStart => exact ⟨0, by omega, rfl, fun t b ht => by omega⟩
  obtain ⟨k, hk, rfl, hno⟩ := hrel
  by_cases hlt : k < (G.backAll now l).length
  ·obtain ⟨m, hm⟩ := G.get_some _ hlt
   obtain ⟨b, cap', e, hS, hgb, k1, k2, c0, c1, c2, f0, f1, f2⟩ := H1.u.msg (by decide) hm
   cases e
   have i0 : (0 : Int) ≤ (k : Int) := by omega
   have i1 : (k : Int) < ((G.backAll now l).length : Int) := by omega
   have HM := J hm
   clear hm k1 k2
   cases ht : m.taken
   ·have HFF := J (G.firstAt_some hno.u HM.u (show G.free m = true by unfold G.free; rw [ht]; rfl))
    have HQ := J (H1.u.put3 (by decide) HM.u m.id (now + ticks) true)
    have HF := J (show LeasePost 74 S w g (.slice (some ⟨b, 0, none⟩) (G.backAll now l).length cap) l last now ticks (.returned (.tuple #[.int .i64 m.id, .int .i64 0])) _ from ⟨by simp [G.leaseNum, G.leaseErr, hok.u, HFF.u, HM.u], by simp only [G.leaseLst, hok.u, if_true, HFF.u]; rw [modify_at HM.u]; exact HQ.u.1.drew, C1.u.trans HQ.u.2.drew⟩)
    rw [ht] at c2
    clear ht hno
    go_wp2_with fail
    go_region
    all_goals
     go_wp2_with fail
     go_ret2
     exact HF.u
   have HN := J (show ∀ (t : Nat) (b : G.Msg), t < k + 1 → (G.backAll now l)[t]? = some b → G.free b = false from fun t b hlt hb => by
    rcases Nat.lt_succ_iff_lt_or_eq.mp hlt with h | h
    ·exact hno.u t b h hb
    subst h; rw [HM.u] at hb; cases hb; unfold G.free; rw [ht]; rfl)
   rw [ht] at c2
   clear ht hno
   go_wp2_with fail
   go_round
   case rel => exact ⟨k + 1, by omega, by go_num, HN⟩
   case measure => simp [intOf]; omega
  have hke : k = (G.backAll now l).length := by omega
  have HN := J (G.firstAt_none (p := G.free) (l := G.backAll now l) (fun t b hb => hno.u t b (by rw [hke]; exact G.get_lt hb) hb))
  have HF := J (show LeasePost 74 S w g (.slice A (G.backAll now l).length cap) l last now ticks (.returned (.tuple #[.int .i64 0, .int .i64 4])) w1 from ⟨by simp only [G.leaseNum, G.leaseErr, hok.u, if_true, HN.u], by simp only [G.leaseLst, hok.u, if_true, HN.u]; exact H1.u, C1.u⟩)
  clear hno hke
  go_wp2_with fail
  go_ret2
  exact HF.u
 have hb : ticks < 1 ∨ 100000 < ticks := by omega
 have HF := J (lease_no (now := now) (ticks := ticks) h (G.Chg.refl _ _) (by unfold G.leaseOk; simp; omega))
 clear h ht
 go_enter Tryz.func36, Tryz.ntmps36
 go_wp2_with fail
 refine (refIn_no _ _ _ _ hb).mono ?_
 rintro e w' ⟨rfl, rfl⟩
 go_wp2_with fail
 go_ret2
 exact HF.u
open Go.RowKit
theorem app_left {w1 wr w2 : World} {v : Value} {n : Nat} {xs : List Value} {o : Obj} {T : TypeId} {k : Nat} (hb : Below w1.heap.size w1 wr) (ho : wr.ownsRow w1.heap.size T k v n xs) (hg : (wr.alloc o).grownBy w2 v.ownBlock) : Below w1.heap.size w1 w2 :=
 (hb.alloc hb.size o).grown hg (by have := hb.size; simp; omega) (G.own_ge ho)
theorem own_slice {w : World} {B : Nat} {T : TypeId} {k : Nat} {v : Value} {n : Nat} {xs : List Value} (h : w.ownsRow B T k v n xs) : ∃ A c, v = .slice A n c := by
 rcases h.2 with ⟨rfl, rfl⟩ | ⟨g, cap, cur, rfl, _⟩
 ·exact ⟨none, 0, rfl⟩
 exact ⟨_, cap, rfl⟩
theorem ack_end {T : TypeId} {S : Nat → Prop} {w w1 wr : World} {g : Nat} {v v7 : Value} {L F : List G.Msg} {last : Int} (h : QAt T S w1 g v L last) (hc : G.Chg S w w1) (hT : T ≠ 111) (ho : wr.ownsRow w1.heap.size 111 3 v7 F.length (F.flatMap G.Msg.enc))
  (hb : Below w1.heap.size w1 wr) (hl : F.length ≤ L.length) :
  (∃ v', QAt T (G.Plus S w (wr.setCell ⟨g, 0, none⟩ v7)) (wr.setCell ⟨g, 0, none⟩ v7) g v' F last) ∧ G.Chg S w (wr.setCell ⟨g, 0, none⟩ v7) := by
 have hA := h.head.below hb h.head.inside
 have hw := hc.size; have hw2 := hb.size
 have hr : G.OwnRow (G.Plus S w wr) wr 111 3 v7 F.length (F.flatMap G.Msg.enc) := G.OwnRow.of_owns ho (fun b hb' => .inr ⟨Nat.le_trans hw (G.own_ge ho b hb'), by
  rcases ho.2 with ⟨rfl, _⟩ | ⟨g', cap, cur, rfl, _, h5, _⟩
  ·simp [Value.ownBlock] at hb'
  simp [Value.ownBlock] at hb'; subst hb'
  rcases Nat.lt_or_ge g' wr.heap.size with hl' | hl'
  ·exact hl'
  rw [Array.getElem?_eq_none hl'] at h5; cases h5⟩)
 refine ⟨⟨v7, hA.put 0 _, ?_, .inl h.own, Nat.le_trans hl h.small, fun b hb' => ?_⟩, (hc.step_below hb hw).put (.inl h.own) _⟩
 ·exact (hr.aside (p := ⟨g, 0, none⟩) (hr.apartAt hA (Ne.symm hT)) _).mono (fun b _ hb' => by rcases hb' with hb' | hb'; exact .inl hb'; exact .inr ⟨hb'.1, by rw [G.size_put]; exact hb'.2⟩)
 rcases hb' with hb' | hb'
 ·rw [G.size_put]; have := h.lim b hb'; omega
 exact hb'.2
theorem linAck (S : Nat → Prop) (g : Nat) (v : Value) (l : List G.Msg) (last now id : Int) (w : World) (h : QAt 74 S w g v l last) (hup : G.Up l) :
  Calls Tryz.prog 37 #[.pointer (some ⟨g, 0, none⟩), .int .i64 now, .int .i64 id] w (fun e w' => e = .returned (.int .i64 (G.ackErr l now id)) ∧ (∃ v', QAt 74 (G.Plus S w w') w' g v' (G.ackLst l now id) last) ∧ G.Chg S w w') := by
 have HH := J h; have HU := J hup
 clear h hup
 go_enter Tryz.func37, Tryz.ntmps37
 go_wp2_with fail
 refine (linAt S g v l last now _ HH.u).mono ?_
 rintro e w1 ⟨rfl, h1, c1⟩
 cases hn : G.nowOk now
 ·rw [show G.nowLst l now = l by unfold G.nowLst; rw [hn]; rfl] at h1
  have HF := J (show Ending.returned (.int .i64 1) = .returned (.int .i64 (G.ackErr l now id)) ∧ (∃ v', QAt 74 (G.Plus S w w1) w1 g v' (G.ackLst l now id) last) ∧ G.Chg S w w1 from ⟨by simp [G.ackErr, hn], ⟨v, by simp only [G.ackLst, hn, Bool.false_eq_true, if_false]; exact h1.up⟩, c1⟩)
  clear h1 c1 hn
  go_wp2_with fail
  go_ret
  exact HF.u
 rw [show G.nowLst l now = G.backAll now l by unfold G.nowLst; rw [hn]; rfl] at h1
 have hcell : w1.cell? ⟨g, 0, none⟩ = some v := h1.head.here rfl
 have HA := J (G.ack_same (HU.u.backAll now) id)
 have HE := J (show G.ackErr l now id = G.ackE id (G.backAll now l) ∧ G.ackLst l now id = (G.backAll now l).filter (G.stays id) by rw [HA.u.1, HA.u.2]; simp only [G.ackErr, G.ackLst, hn, if_true]; trivial)
 generalize G.backAll now l = L at h1 HE
 obtain ⟨A, cap, rfl, _, _, _⟩ := h1.row.slice
 have hs := h1.small
 have H1 := J h1; have C1 := J c1
 obtain ⟨i0, hi, hz0, hz1, hz2⟩ := info_parts info_msg
 clear h1 c1 hn HA HU
 go_wp2_with fail
 go_loopw [7, 8, 9] (fun v7 e8 i wr => ∃ k : Nat, k ≤ L.length ∧ i = .int .i64 k ∧ e8 = .int .i64 (G.ackE id (L.take k)) ∧ Hid (wr.ownsRow w1.heap.size 111 3 v7 ((L.take k).filter (G.stays id)).length (((L.take k).filter (G.stays id)).flatMap G.Msg.enc)) ∧ Below w1.heap.size w1 wr) (fun _ _ i _ => L.length - (intOf i).toNat)
 case atStart => exact ⟨0, by omega, rfl, rfl, ⟨by simp, .inl ⟨rfl, by simp⟩⟩, Below.refl _ _⟩
 obtain ⟨k, hk, rfl, rfl, hown, hb⟩ := hrel
 have hgl : g < w1.heap.size := H1.u.head.inside
 have hcg : wr.cell? ⟨g, 0, none⟩ = some (.slice A L.length cap) := (hb.cell (p := ⟨g, 0, none⟩) hgl).trans (H1.u.head.here rfl)
 clear hcell
 by_cases hlt : k < L.length
 ·obtain ⟨m, hm⟩ := G.get_some L hlt
  obtain ⟨b, cap', e, hS, hgb, k1, k2, c0, c1, c2, _, _, _⟩ := H1.u.msg (by decide) hm
  cases e
  have hbl : b < w1.heap.size := H1.u.lim b hS
  have d0 := (hb.cell (p := ⟨b, k * 3, none⟩) hbl).trans c0
  have d1 := (hb.cell (p := ⟨b, k * 3 + 1, none⟩) hbl).trans c1
  have d2 := (hb.cell (p := ⟨b, k * 3 + 2, none⟩) hbl).trans c2
  have i0' : (0 : Int) ≤ (k : Int) := by omega
  have i1' : (k : Int) < (L.length : Int) := by omega
  have HS := J (G.ackE_snoc id hm)
  have HFs := J (G.filter_snoc (p := G.stays id) hm)
  have hfl : ((L.take k).filter (G.stays id)).length ≤ 200 := Nat.le_trans (List.length_filter_le _ _) (by rw [List.length_take]; omega)
  have HB := J hb
  clear hm c0 c1 c2 k1 k2 hb
  generalize (L.take k).filter (G.stays id) = F at hown HFs hfl ⊢
  have hm3 := J (show F.length + 1 ≤ maxLen by simp only [maxLen]; omega)
  have hm4 := J (show (F.length + 1) * 24 ≤ 140737488355328 by omega)
  have hm5 := J (show w1.heap.size ≤ (wr.alloc (.cells #[.int .i64 m.id, .int .i64 m.till, .bool m.taken] 111)).heap.size by have := HB.u.size; simp; omega)
  have hap := J (hown.u.alloc (.cells #[.int .i64 m.id, .int .i64 m.till, .bool m.taken] 111))
  have hnew := J (fun (j : Nat) (u : Value) (hu : (#[Value.int .i64 m.id, .int .i64 m.till, .bool m.taken] : Array Value).toList[j]? = some u) => G.new_cells wr #[.int .i64 m.id, .int .i64 m.till, .bool m.taken] 111 j u hu)
  cases hid : (m.id == id)
  ·have hst : G.stays id m = true := by unfold G.stays; simp [hid]
   have hE : G.ackE id (L.take (k + 1)) = G.ackE id (L.take k) := by rw [HS.u]; unfold G.ackStep; rw [hid]; rfl
   have HST := J hst; have HEE := J hE
   clear hst hE
   go_wp2_with (at_builtin; refine wpList_append_own _ (by rfl) (.tmp 41) (.tmp 49) 72 (by rfl) w1.heap.size 111 i0 (.agg #[.int .i64 0, .int .i64 0, .bool false]) 3 24 Tryz.underlying72 hi hz0 hz1 hz2 rfl (by decide) _ _ _ rfl hap.u ⟨wr.heap.size, 0, none⟩ 1 1 [.int .i64 m.id, .int .i64 m.till, .bool m.taken] rfl rfl hnew.u (by simp [Value.oneCell']) hm3.u hm4.u hm5.u ?_)
   intro v' w2 hown2 hg2 _
   have hb2 := J (app_left HB.u hown.u hg2)
   have ho2 := J hown2
   clear hown2 hg2
   go_wp2_with fail
   go_roundw
   case rel => exact ⟨k + 1, by omega, by go_num, by rw [HEE.u], by rw [HFs.u, HST.u]; simpa [G.Msg.enc] using ho2, hb2.u⟩
   case measure => simp [intOf]; omega
  cases ht : m.taken
  ·rw [ht] at d2 hap hnew hm5
   have hst : G.stays id m = true := by unfold G.stays; simp [ht]
   have hE : G.ackE id (L.take (k + 1)) = 7 := by rw [HS.u]; unfold G.ackStep; rw [hid, ht]; rfl
   have HST := J hst; have HEE := J hE; have HT := J ht
   clear hst hE ht
   go_wp2_with (at_builtin; refine wpList_append_own _ (by rfl) (.tmp 41) (.tmp 49) 72 (by rfl) w1.heap.size 111 i0 (.agg #[.int .i64 0, .int .i64 0, .bool false]) 3 24 Tryz.underlying72 hi hz0 hz1 hz2 rfl (by decide) _ _ _ rfl hap.u ⟨wr.heap.size, 0, none⟩ 1 1 [.int .i64 m.id, .int .i64 m.till, .bool false] rfl rfl hnew.u (by simp [Value.oneCell']) hm3.u hm4.u hm5.u ?_)
   intro v' w2 hown2 hg2 _
   have hb2 := J (app_left HB.u hown.u hg2)
   have ho2 := J hown2
   clear hown2 hg2
   go_wp2_with fail
   go_roundw
   case rel => exact ⟨k + 1, by omega, by go_num, by rw [HEE.u], by rw [HFs.u, HST.u]; simpa [G.Msg.enc, HT.u] using ho2, hb2.u⟩
   case measure => simp [intOf]; omega
  rw [ht] at d2
  have hst : G.stays id m = false := by unfold G.stays; simp [ht, hid]
  have hE : G.ackE id (L.take (k + 1)) = 0 := by rw [HS.u]; unfold G.ackStep; rw [hid, ht]; rfl
  have HST := J hst; have HEE := J hE
  clear hst hE ht hap hnew
  go_wp2_with fail
  go_roundw
  case rel => exact ⟨k + 1, by omega, by go_num, by rw [HEE.u], by rw [HFs.u, HST.u]; simpa using hown, HB.u⟩
  case measure => simp [intOf]; omega
 have hke : k = L.length := by omega
 subst hke
 rw [List.take_length] at hown ⊢
 have hw : w.heap.size ≤ w1.heap.size := C1.u.size
 obtain ⟨A7, cap7, rfl⟩ := own_slice hown.u
 have hA : G.At wr g 74 #[.slice A L.length cap, .int .i64 last] := H1.u.head.below hb hgl
 have f0 := hA.soft 0
 have HF := J (show (∃ v', QAt 74 (G.Plus S w (wr.setCell ⟨g, 0, none⟩ _)) (wr.setCell ⟨g, 0, none⟩ _) g v' (L.filter (G.stays id)) last) ∧ G.Chg S w (wr.setCell ⟨g, 0, none⟩ _) from ack_end H1.u C1.u (by decide) hown.u hb (List.length_filter_le _ _))
 clear hA hown hb
 go_wp2_with fail
 go_ret
 exact ⟨(by rw [HE.u.1] <;> rfl), by rw [HE.u.2]; exact HF.u.1, HF.u.2⟩
theorem linAll (S : Nat → Prop) (g : Nat) (v : Value) (l : List G.Msg) (last now : Int) (w : World) (h : QAt 74 S w g v l last) :
  Calls Tryz.prog 45 #[.pointer (some ⟨g, 0, none⟩), .int .i64 now] w (AllPost 74 S w g v l last now) := by
 have HH := J h
 clear h
 go_enter Tryz.func45, Tryz.ntmps45
 go_wp2_with fail
 refine (linAt S g v l last now _ HH.u).mono ?_
 rintro e w1 ⟨rfl, h1, c1⟩
 cases hn : G.nowOk now
 ·have HF := J (show AllPost 74 S w g v l last now (.returned (.tuple #[.slice none 0 0, .int .i64 1])) w1 from ⟨⟨.slice none 0 0, by simp [G.nowErr, hn], by simp only [G.allLst, hn, Bool.false_eq_true, if_false]; exact G.OwnRow.nil _ _ _ _⟩, h1, c1⟩)
  clear h1 c1 hn
  go_wp2_with fail
  go_ret2
  exact HF.u
 have hl : G.nowLst l now = G.allLst l now := by simp [G.nowLst, G.allLst, hn]
 have HN := J hn
 have hcell : w1.cell? ⟨g, 0, none⟩ = some v := h1.head.here rfl
 have H1 := J h1; have C1 := J c1; have HL := J hl
 have hf : ∀ (v' : Value) (w2 : World), w2.ownsRow w1.heap.size 111 3 v' (G.nowLst l now).length ((G.nowLst l now).flatMap G.Msg.enc) → Below w1.heap.size w1 w2 → AllPost 74 S w g v l last now (.returned (.tuple #[v', .int .i64 0])) w2 := fun v' w2 ho hb =>
  ⟨⟨v', by simp [G.nowErr, HN.u], by rw [← HL.u]; exact (G.OwnRow.of_owns (S := fun b => w1.heap.size ≤ b) ho (G.own_ge ho)).mono (fun b _ hb => Nat.le_trans C1.u.size hb)⟩, H1.u.chg (G.Chg.of_below (S := fun _ => False) hb (Nat.le_refl _)) (fun _ _ h => h), C1.u.step_below hb C1.u.size⟩
 have HFn := J hf
 rcases h1.row.2 with ⟨rfl, h0⟩ | ⟨b, cap, rfl, hS, hcap, hmax, hrow⟩
 ·have HF := J (HFn.u (.slice none 0 0) w1 ⟨H1.u.row.1, .inl ⟨rfl, h0⟩⟩ (Below.refl _ _))
  clear h1 c1 hn hl hf h0
  go_wp2_with fail
  go_ret2
  exact HF.u
 have HR := J hrow; have HX := J H1.u.row.1
 have hs := H1.u.small
 have hm3 := J (show 0 + (G.nowLst l now).length ≤ maxLen by simp only [maxLen]; omega)
 have hm4 := J (show (0 + (G.nowLst l now).length) * 24 ≤ 140737488355328 by omega)
 obtain ⟨i0, hi, hz0, hz1, hz2⟩ := info_parts info_msg
 clear h1 c1 hn hl hf hrow hcap hmax hs
 go_wp2_with (at_builtin; refine wpList_append_own _ (by rfl) (.const (.slice none 0 0)) (.tmp 13) 72 (by rfl) w1.heap.size 111 i0 (.agg #[.int .i64 0, .int .i64 0, .bool false]) 3 24 Tryz.underlying72 hi hz0 hz1 hz2 rfl (by decide) _ _ _ rfl (World.ownsRow_nil _ _ _ _) ⟨b, 0, none⟩ _ cap _ rfl HX.u (fun j u hu => by rw [Addr.add_lit, Nat.zero_add]; exact HR.u.cell hu) flat_one hm3.u hm4.u (Nat.le_refl _) ?_)
 intro v' w2 hown2 hg2 _
 have HF := J (HFn.u v' w2 (by simpa using hown2) ((Below.refl _ _).grown hg2 (Nat.le_refl _) (fun k hk => by simp [Value.ownBlock] at hk)))
 clear hown2 hg2
 go_wp2_with fail
 go_ret2
 exact HF.u
theorem linDepth (S : Nat → Prop) (g : Nat) (v : Value) (l : List G.Msg) (last now : Int) (w : World) (h : QAt 74 S w g v l last) :
  Calls Tryz.prog 80 #[.pointer (some ⟨g, 0, none⟩), .int .i64 now] w fun e w' => e = .returned (.tuple #[.int .i64 (G.depthNum l now), .int .i64 (G.nowErr now)]) ∧ QAt 74 S w' g v (G.nowLst l now) last ∧ G.Chg S w w' := by
 have HH := J h
 clear h
 have hfin := J (show G.depthNum l now = (((G.allLst l now).countP G.free : Nat) : Int) by unfold G.depthNum G.allLst; cases G.nowOk now <;> simp)
 have hlen : (G.allLst l now).length ≤ 200 := by
  have := HH.u.small
  unfold G.allLst G.backAll; split <;> simp <;> omega
 go_enter Tryz.func80, Tryz.ntmps80
 go_wp2_with fail
 refine (linAll S g v l last now _ HH.u).mono ?_
 rintro e w1 ⟨⟨v1, rfl, ho⟩, h1, c1⟩
 generalize G.allLst l now = L at ho hfin hlen
 obtain ⟨A, cap, rfl, _, _, hA⟩ := ho.slice
 have HA := J hA; have H1 := J h1; have C1 := J c1
 clear hA h1 c1 ho
 go_wp2_with fail
 go_loop [8, 9] (fun n i => ∃ k : Nat, k ≤ L.length ∧ i = .int .i64 k ∧ n = .int .i64 (((L.take k).countP G.free : Nat) : Int)) (fun _ i => L.length - (intOf i).toNat)
 case atStart => exact ⟨0, by omega, rfl, by simp⟩
 obtain ⟨k, hk, rfl, rfl⟩ := hrel
 by_cases hlt : k < L.length
 ·obtain ⟨m, hm⟩ := G.get_some L hlt
  obtain ⟨b, rfl, _, hr⟩ := HA.u (by omega)
  have c2 := hr.cell (G.flat_get (j := 2) G.Msg.enc_length hm rfl)
  have i0 : (0 : Int) ≤ (k : Int) := by omega
  have i1 : (k : Int) < (L.length : Int) := by omega
  have HC := J (G.count_snoc (p := G.free) hm)
  have hle : (L.take k).countP G.free ≤ 200 := Nat.le_trans List.countP_le_length (by rw [List.length_take]; omega)
  generalize (L.take k).countP G.free = N at HC hle ⊢
  have hle' : (N : Int) ≤ 200 := by omega
  clear hm hr hle
  cases ht : m.taken
  ·rw [ht] at c2
   have HT := J (show G.free m = true by unfold G.free; rw [ht]; rfl)
   clear ht
   go_wp2_with fail
   go_round
   case rel => exact ⟨k + 1, by omega, by go_num, by rw [HC.u, HT.u]; go_num⟩
   case measure => simp [intOf]; omega
  rw [ht] at c2
  have HT := J (show G.free m = false by unfold G.free; rw [ht]; rfl)
  clear ht
  go_wp2_with fail
  go_round
  case rel => exact ⟨k + 1, by omega, by go_num, by rw [HC.u, HT.u]; go_num⟩
  case measure => simp [intOf]; omega
 have hke : k = L.length := by omega
 subst hke
 rw [List.take_length]
 go_wp2_with fail
 go_ret2
 exact ⟨(by rw [hfin.u] <;> rfl), H1.u, C1.u⟩
end Go.Proofs.YtidonhndeohdlaaGreat
namespace G
theorem first_same {p q : Nat → Bool} {R : Nat → Prop} {v : Nat → Option Int} (n : Nat) (h1 : ∀ i, R i → p i = q i) (h2 : ∀ i j, i ≤ j → R j → R i) (h3 : ∀ i, ¬ R i → v i = none) :
  (match firstUnder p n with | none => none | some i => v i) = (match firstUnder q n with | none => none | some i => v i) := by
 cases hp : firstUnder p n with
 | some i =>
  obtain ⟨hi, hpi, hlo⟩ := under_some hp
  by_cases hr : R i
  ·have hq : firstUnder q n = some i := under_is hi ((h1 i hr).symm.trans hpi) (fun k hk => (h1 k (h2 k i (by omega) hr)).symm.trans (hlo k hk))
   rw [hq]
  cases hq : firstUnder q n with
  | none => exact h3 i hr
  | some j =>
   obtain ⟨hj, hqj, _⟩ := under_some hq
   show v i = v j
   rw [h3 i hr]
   by_cases hrj : R j
   ·have hpj := (h1 j hrj).trans hqj
    rcases Nat.lt_or_ge j i with c | c
    ·rw [hlo j c] at hpj; cases hpj
    exact absurd (h2 i j c hrj) hr
   rw [h3 j hrj]
 | none =>
  cases hq : firstUnder q n with
  | none => rfl
  | some j =>
   obtain ⟨hj, hqj, _⟩ := under_some hq
   show none = v j
   by_cases hrj : R j
   ·have hpj := (h1 j hrj).trans hqj
    rw [under_none hp j hj] at hpj; cases hpj
   rw [h3 j hrj]
end G
namespace Go.Proofs.YtidonhndeohdlaaGreat
open Go.RowKit
theorem in_day_at {c : Cr} {a sec side n : Int} (h : c.inDay a sec side = some n) : ∃ k, k < 1440 ∧ n = a + 60 * G.minOf side k := by
 unfold Cr.inDay at h
 cases hf : G.firstUnder (c.minB a sec side) 1440 with
 | none => rw [hf] at h; cases h
 | some k =>
  rw [hf] at h
  exact ⟨k, (G.under_some hf).1, by simpa using h.symm⟩
theorem fit_same {c : Cr} {a shift : Int} (h : (a + 60 * shift) % 86400 = 0) (h0 : -100000000000 < a + 86400) (h1 : a ≤ 100000000000) : c.dayFit shift a = c.dayFitR shift a := by
 have e : (clampT (a + 43200) + 60 * shift) / 86400 = (a + 60 * shift) / 86400 := by unfold clampT; omega
 unfold Cr.dayFit Cr.dayFitR
 rw [e]
theorem seek_same {c : Cr} {sec shift side : Int} (hs : side = 1 ∨ side = -1) (h : okTime sec shift) : c.seekR sec shift side = c.seekO sec shift side := by
 obtain ⟨t0, t1, t2, t3⟩ := h
 have hst : dayStart sec shift = sec - (sec + 60 * shift) % 86400 := rfl
 unfold Cr.seekR Cr.seekO
 refine (G.first_same (R := fun i => -100000000000 < dayAt sec shift side i + 86400 ∧ dayAt sec shift side i ≤ 100000000000) 3001 ?_ ?_ ?_)
 ·rintro i ⟨r0, r1⟩
  unfold Cr.hitR Cr.hit
  rw [fit_same (c := c) (shift := shift) ?_ r0 r1]
  unfold dayAt
  rw [hst]
  rcases hs with rfl | rfl <;> omega
 ·intro i j hij
  unfold dayAt
  rw [hst]
  rcases hs with rfl | rfl <;> omega
 intro i hn
 cases hd : c.inDay (dayAt sec shift side i) sec side with
 | none => rfl
 | some n =>
  obtain ⟨k, hk, e⟩ := in_day_at hd
  unfold inTime
  simp only
  rw [if_pos]
  unfold dayAt at hn e
  rw [hst] at hn e
  unfold G.minOf at e
  rcases hs with rfl | rfl
  ·simp at e; omega
  simp at e; omega
theorem found_same {c : Cr} {sec shift side : Int} (hs : side = 1 ∨ side = -1) (h : okTime sec shift) (hok : c.ok = true) : foundV (c.seekR sec shift side) = .tuple #[.int .i64 (c.seekN sec shift side), .bool (c.seekB sec shift side)] := by
 rw [seek_same hs h]
 unfold Cr.seekN Cr.seekB
 rw [if_pos ⟨hok, h⟩, if_pos ⟨hok, h⟩]
 cases c.seekO sec shift side <;> rfl
open Go.RowKit
theorem refLast (c : Cr) (hf : c.fits) (sec shift : Int) (w : World) (hot : okTime sec shift) (hok : c.ok = true) :
  Calls Tryz.prog 155 #[.agg c.cells, .int .i64 sec, .int .i64 shift, .int .i64 (-1)] w fun e w' => e = .returned (.tuple #[.int .i64 (c.seekN sec shift (-1)), .bool (c.seekB sec shift (-1))]) ∧ Below w.heap.size w w' := by
 rw [← found_same (.inr rfl) hot hok]; exact refSeekDn c hf sec shift w hot
theorem refSpan (ai ah ad am aw bi bh bd bm bw : Nat) (aa ab ba bb : Bool) (ha : Cr.fits ⟨ai, ah, ad, am, aw, aa, ab⟩) (hb : Cr.fits ⟨bi, bh, bd, bm, bw, ba, bb⟩) (w : World) : Calls Tryz.prog 16 #[.agg #[.int .u64 (ai : Int), .int .u64 (ah : Int), .int .u64 (ad : Int), .int .u64 (am : Int), .int .u64 (aw : Int), .bool aa, .bool ab, .int .u64 (bi : Int), .int .u64 (bh : Int), .int .u64 (bd : Int), .int .u64 (bm : Int), .int .u64 (bw : Int), .bool ba, .bool bb]] w fun e w' => e = .returned (.int .i64 (spanE ⟨ai, ah, ad, am, aw, aa, ab⟩ ⟨bi, bh, bd, bm, bw, ba, bb⟩)) ∧ Below w.heap.size w w' := by
 have HCa := J ha; have HCb := J hb
 have HB := J ((Below.refl w.heap.size w).alloc (Nat.le_refl _) (.cells #[.int .u64 (ai : Int), .int .u64 (ah : Int), .int .u64 (ad : Int), .int .u64 (am : Int), .int .u64 (aw : Int), .bool aa, .bool ab, .int .u64 (bi : Int), .int .u64 (bh : Int), .int .u64 (bd : Int), .int .u64 (bm : Int), .int .u64 (bw : Int), .bool ba, .bool bb] 61))
 have HX := J (G.At.made w 61 #[.int .u64 (ai : Int), .int .u64 (ah : Int), .int .u64 (ad : Int), .int .u64 (am : Int), .int .u64 (aw : Int), .bool aa, .bool ab, .int .u64 (bi : Int), .int .u64 (bh : Int), .int .u64 (bd : Int), .int .u64 (bm : Int), .int .u64 (bw : Int), .bool ba, .bool bb])
 clear ha hb
 have he : (Cr.err ⟨ai, ah, ad, am, aw, aa, ab⟩ = 0 ∧ spanE ⟨ai, ah, ad, am, aw, aa, ab⟩ ⟨bi, bh, bd, bm, bw, ba, bb⟩ = Cr.err ⟨bi, bh, bd, bm, bw, ba, bb⟩) ∨ (Cr.err ⟨ai, ah, ad, am, aw, aa, ab⟩ = 1 ∧ spanE ⟨ai, ah, ad, am, aw, aa, ab⟩ ⟨bi, bh, bd, bm, bw, ba, bb⟩ = 1) := by
  unfold spanE
  cases hok : Cr.ok ⟨ai, ah, ad, am, aw, aa, ab⟩
  ·right; exact ⟨Cr.err_no hok, rfl⟩
  left; exact ⟨Cr.err_yes hok, rfl⟩
 obtain ⟨R, hR⟩ : ∃ R, spanE ⟨ai, ah, ad, am, aw, aa, ab⟩ ⟨bi, bh, bd, bm, bw, ba, bb⟩ = R := ⟨_, rfl⟩
 rw [hR] at he ⊢
 have HE := J he
 clear he hR
 have z0 := HX.u.here (i := 0) rfl; have z1 := HX.u.here (i := 1) rfl; have z2 := HX.u.here (i := 2) rfl; have z3 := HX.u.here (i := 3) rfl; have z4 := HX.u.here (i := 4) rfl; have z5 := HX.u.here (i := 5) rfl; have z6 := HX.u.here (i := 6) rfl; have z7 := HX.u.here (i := 7) rfl; have z8 := HX.u.here (i := 8) rfl; have z9 := HX.u.here (i := 9) rfl; have z10 := HX.u.here (i := 10) rfl; have z11 := HX.u.here (i := 11) rfl; have z12 := HX.u.here (i := 12) rfl; have z13 := HX.u.here (i := 13) rfl
 go_enter Tryz.func16, Tryz.ntmps16
 go_wp2_with fail
 refine (refCron ⟨ai, ah, ad, am, aw, aa, ab⟩ HCa.u _).mono ?_
 rintro e w1 ⟨rfl, hb1⟩
 have HB1 := J (HB.u.trans (hb1.mono HB.u.size))
 have HX1 := J (HX.u.below hb1 HX.u.inside)
 clear hb1 z0 z1 z2 z3 z4 z5 z6 z7 z8 z9 z10 z11 z12 z13
 rcases HE.u with ⟨h1, h2⟩ | ⟨h1, h2⟩
 ·rw [h1]
  subst h2
  clear h1
  have y0 := HX1.u.here (i := 7) rfl; have y1 := HX1.u.here (i := 8) rfl; have y2 := HX1.u.here (i := 9) rfl; have y3 := HX1.u.here (i := 10) rfl; have y4 := HX1.u.here (i := 11) rfl; have y5 := HX1.u.here (i := 12) rfl; have y6 := HX1.u.here (i := 13) rfl
  go_wp2_with fail
  refine (refCron ⟨bi, bh, bd, bm, bw, ba, bb⟩ HCb.u _).mono ?_
  rintro e w2 ⟨rfl, hb2⟩
  have HF := J (HB1.u.trans (hb2.mono HB1.u.size))
  clear hb2 y0 y1 y2 y3 y4 y5 y6
  go_wp2_with fail
  go_ret
  exact ⟨rfl, HF.u⟩
 rw [h1]
 subst h2
 clear h1
 go_wp2_with fail
 go_ret
 exact ⟨rfl, HB1.u⟩
theorem refWithin (ai ah ad am aw bi bh bd bm bw : Nat) (aa ab ba bb : Bool) (ha : Cr.fits ⟨ai, ah, ad, am, aw, aa, ab⟩) (hb : Cr.fits ⟨bi, bh, bd, bm, bw, ba, bb⟩) (sec shift : Int) (w : World) (hE : spanE ⟨ai, ah, ad, am, aw, aa, ab⟩ ⟨bi, bh, bd, bm, bw, ba, bb⟩ = 0) (hot : okTime sec shift) : Calls Tryz.prog 141 #[.agg #[.int .u64 (ai : Int), .int .u64 (ah : Int), .int .u64 (ad : Int), .int .u64 (am : Int), .int .u64 (aw : Int), .bool aa, .bool ab, .int .u64 (bi : Int), .int .u64 (bh : Int), .int .u64 (bd : Int), .int .u64 (bm : Int), .int .u64 (bw : Int), .bool ba, .bool bb], .int .i64 sec, .int .i64 shift] w fun e w' => e = .returned (.bool (spanInB ⟨ai, ah, ad, am, aw, aa, ab⟩ ⟨bi, bh, bd, bm, bw, ba, bb⟩ sec shift)) ∧ Below w.heap.size w w' := by
 have HB := J ((Below.refl w.heap.size w).alloc (Nat.le_refl _) (.cells #[.int .u64 (ai : Int), .int .u64 (ah : Int), .int .u64 (ad : Int), .int .u64 (am : Int), .int .u64 (aw : Int), .bool aa, .bool ab, .int .u64 (bi : Int), .int .u64 (bh : Int), .int .u64 (bd : Int), .int .u64 (bm : Int), .int .u64 (bw : Int), .bool ba, .bool bb] 61))
 have HX := J (G.At.made w 61 #[.int .u64 (ai : Int), .int .u64 (ah : Int), .int .u64 (ad : Int), .int .u64 (am : Int), .int .u64 (aw : Int), .bool aa, .bool ab, .int .u64 (bi : Int), .int .u64 (bh : Int), .int .u64 (bd : Int), .int .u64 (bm : Int), .int .u64 (bw : Int), .bool ba, .bool bb])
 have HLa := J (fun (W : World) => refLast ⟨ai, ah, ad, am, aw, aa, ab⟩ ha sec shift W hot (spanE_ok hE).1)
 have HLb := J (fun (W : World) => refLast ⟨bi, bh, bd, bm, bw, ba, bb⟩ hb sec shift W hot (spanE_ok hE).2)
 have H1 := J (show spanInB ⟨ai, ah, ad, am, aw, aa, ab⟩ ⟨bi, bh, bd, bm, bw, ba, bb⟩ sec shift = (Cr.seekB ⟨ai, ah, ad, am, aw, aa, ab⟩ sec shift (-1) && (!(Cr.seekB ⟨bi, bh, bd, bm, bw, ba, bb⟩ sec shift (-1)) || decide (Cr.seekN ⟨bi, bh, bd, bm, bw, ba, bb⟩ sec shift (-1) ≤ Cr.seekN ⟨ai, ah, ad, am, aw, aa, ab⟩ sec shift (-1)))) by unfold spanInB; rw [if_pos ⟨hE, hot⟩])
 clear ha hb hE hot
 have z0 := HX.u.here (i := 0) rfl; have z1 := HX.u.here (i := 1) rfl; have z2 := HX.u.here (i := 2) rfl; have z3 := HX.u.here (i := 3) rfl; have z4 := HX.u.here (i := 4) rfl; have z5 := HX.u.here (i := 5) rfl; have z6 := HX.u.here (i := 6) rfl; have z7 := HX.u.here (i := 7) rfl; have z8 := HX.u.here (i := 8) rfl; have z9 := HX.u.here (i := 9) rfl; have z10 := HX.u.here (i := 10) rfl; have z11 := HX.u.here (i := 11) rfl; have z12 := HX.u.here (i := 12) rfl; have z13 := HX.u.here (i := 13) rfl
 go_enter Tryz.func141, Tryz.ntmps141
 go_wp2_with fail
 refine (HLa.u _).mono ?_
 rintro e w1 ⟨rfl, hb1⟩
 have HB1 := J (HB.u.trans (hb1.mono HB.u.size))
 have HX1 := J (HX.u.below hb1 HX.u.inside)
 clear hb1 z0 z1 z2 z3 z4 z5 z6 z7 z8 z9 z10 z11 z12 z13
 have y0 := HX1.u.here (i := 7) rfl; have y1 := HX1.u.here (i := 8) rfl; have y2 := HX1.u.here (i := 9) rfl; have y3 := HX1.u.here (i := 10) rfl; have y4 := HX1.u.here (i := 11) rfl; have y5 := HX1.u.here (i := 12) rfl; have y6 := HX1.u.here (i := 13) rfl
 generalize Cr.seekN ⟨ai, ah, ad, am, aw, aa, ab⟩ sec shift (-1) = na at H1 ⊢
 generalize Cr.seekB ⟨ai, ah, ad, am, aw, aa, ab⟩ sec shift (-1) = ba' at H1 ⊢
 go_wp2_with fail
 refine (HLb.u _).mono ?_
 rintro e w2 ⟨rfl, hb2⟩
 have HF := J (HB1.u.trans (hb2.mono HB1.u.size))
 clear hb2 y0 y1 y2 y3 y4 y5 y6
 generalize Cr.seekN ⟨bi, bh, bd, bm, bw, ba, bb⟩ sec shift (-1) = nb at H1 ⊢
 generalize Cr.seekB ⟨bi, bh, bd, bm, bw, ba, bb⟩ sec shift (-1) = bb' at H1 ⊢
 cases ba' <;> cases bb'
 case true.true =>
  by_cases hq : nb ≤ na
  ·have h1 : decide (na < nb) = false := decide_eq_false (by omega)
   have HV := J (H1.u.trans (show _ = true by rw [decide_eq_true hq]; rfl))
   go_wp2_with fail
   go_ret
   exact ⟨by rw [HV.u] <;> rfl, HF.u⟩
  have h0 : na < nb := by omega
  have HV := J (H1.u.trans (show _ = false by rw [decide_eq_false hq]; rfl))
  clear hq
  go_wp2_with fail
  go_ret
  exact ⟨by rw [HV.u] <;> rfl, HF.u⟩
 all_goals
  go_wp2_with fail
  go_ret
  exact ⟨by rw [H1.u] <;> rfl, HF.u⟩
end Go.Proofs.YtidonhndeohdlaaGreat
