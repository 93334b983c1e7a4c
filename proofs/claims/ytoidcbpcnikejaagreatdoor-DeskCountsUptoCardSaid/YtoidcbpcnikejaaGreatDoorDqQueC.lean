/- The contracts of package queue. -/
import Derived.Test.YtoidcbpcnikejaaGreatDoorDq02
set_option linter.unusedVariables false
set_option linter.unusedSimpArgs false
set_option maxRecDepth 100000
set_option maxHeartbeats 12800000
namespace Go.Proofs.YtoidcbpcnikejaaGreatDoor
open Go.RowKit
theorem info_msg : (Tryz.prog.info? 237).map (fun i => (i.zero, i.size, i.bytes)) = some (some (.agg #[.int .i64 0, .int .i64 0, .bool false]), 3, 24) := by kernel_rfl
structure QAt (T : TypeId) (S : Nat → Prop) (w : World) (g : Nat) (v : Value) (l : List G.Msg) (last : Int) : Prop where
 head : G.At w g T #[v, .int .i64 last]
 row : G.OwnRow S w 237 3 v l.length (l.flatMap G.Msg.enc)
 own : S g
 small : l.length ≤ 200
 lim : ∀ b, S b → b < w.heap.size
theorem QAt.chg {T : TypeId} {S C : Nat → Prop} {w w' : World} {g : Nat} {v : Value} {l : List G.Msg} {last : Int} (h : QAt T S w g v l last) (hc : G.Chg C w w') (hs : ∀ b, S b → ¬ C b) : QAt T S w' g v l last :=
 ⟨h.head.chg hc (hs g h.own), h.row.chg hc hs, h.own, h.small, fun b hb => Nat.lt_of_lt_of_le (h.lim b hb) hc.size⟩
theorem QAt.mono {T : TypeId} {S S' : Nat → Prop} {w : World} {g : Nat} {v : Value} {l : List G.Msg} {last : Int} (h : QAt T S w g v l last) (hs : ∀ b, b < w.heap.size → S b → S' b) (hl : ∀ b, S' b → b < w.heap.size) : QAt T S' w g v l last :=
 ⟨h.head, h.row.mono hs, hs g h.head.inside h.own, h.small, hl⟩
theorem QAt.msg {T : TypeId} {S : Nat → Prop} {w : World} {g : Nat} {v : Value} {l : List G.Msg} {last : Int} (h : QAt T S w g v l last) (hT : T ≠ 237) {k : Nat} {m : G.Msg} (hk : l[k]? = some m) :
  ∃ b cap, v = .slice (some ⟨b, 0, none⟩) l.length cap ∧ S b ∧ g ≠ b ∧ l.length ≤ cap ∧ cap ≤ maxLen ∧ w.cell? ⟨b, k * 3, none⟩ = some (.int .i64 m.id) ∧ w.cell? ⟨b, k * 3 + 1, none⟩ = some (.int .i64 m.till) ∧ w.cell? ⟨b, k * 3 + 2, none⟩ = some (.bool m.taken) ∧
   w.frozen? ⟨b, k * 3, none⟩ = false ∧ w.frozen? ⟨b, k * 3 + 1, none⟩ = false ∧ w.frozen? ⟨b, k * 3 + 2, none⟩ = false := by
 obtain ⟨b, cap, e, hS, h1, h2, h3⟩ := h.row.form (by have := G.get_lt hk; omega)
 exact ⟨b, cap, e, hS, (h3.apartAt h.head (Ne.symm hT)).symm, h1, h2, h3.cell (G.flat_get (j := 0) G.Msg.enc_length hk rfl), h3.cell (G.flat_get (j := 1) G.Msg.enc_length hk rfl), h3.cell (G.flat_get (j := 2) G.Msg.enc_length hk rfl), h3.soft _, h3.soft _, h3.soft _⟩
theorem QAt.put2 {T : TypeId} {S : Nat → Prop} {w : World} {g b cap n : Nat} {l : List G.Msg} {last : Int} (h : QAt T S w g (.slice (some ⟨b, 0, none⟩) n cap) l last) (hT : T ≠ 237) {k : Nat} {m : G.Msg} (hk : l[k]? = some m) (t : Int) (x : Bool) :
  QAt T S ((w.setCell ⟨b, k * 3 + 2, none⟩ (.bool x)).setCell ⟨b, k * 3 + 1, none⟩ (.int .i64 t)) g (.slice (some ⟨b, 0, none⟩) n cap) (l.set k ⟨m.id, t, x⟩) last ∧ G.Chg S w ((w.setCell ⟨b, k * 3 + 2, none⟩ (.bool x)).setCell ⟨b, k * 3 + 1, none⟩ (.int .i64 t)) := by
 have hkl := G.get_lt hk
 obtain ⟨b', cap', e, hS, h1, h2, h3⟩ := h.row.form (by omega)
 cases e
 have hgb : g ≠ b := (h3.apartAt h.head (Ne.symm hT)).symm
 have hr := h.row
 have f1 := G.flat_lt G.Msg.enc_length hkl (show 2 < 3 by omega)
 have f2 := G.flat_lt G.Msg.enc_length hkl (show 1 < 3 by omega)
 refine ⟨⟨(h.head.other (p := ⟨b, k * 3 + 2, none⟩) hgb _).other (p := ⟨b, k * 3 + 1, none⟩) hgb _, ?_, h.own, by rw [List.length_set]; exact h.small, fun b hb => by rw [G.size_put, G.size_put]; exact h.lim b hb⟩, ((G.Chg.refl S w).put (p := ⟨b, k * 3 + 2, none⟩) (.inl hS) _).put (p := ⟨b, k * 3 + 1, none⟩) (.inl hS) _⟩
 have p1 := (hr.put f1 (.bool x)).put (i := k * 3 + 1) (by rw [List.length_set]; exact f2) (.int .i64 t)
 rw [G.flat_set (a' := ⟨m.id, m.till, x⟩) G.Msg.enc_length hk (by omega) rfl, G.flat_set (a := ⟨m.id, m.till, x⟩) (a' := ⟨m.id, t, x⟩) G.Msg.enc_length (by simp [hkl]) (by omega) rfl, List.set_set] at p1
 rw [List.length_set]
 exact p1
theorem QAt.tick {T : TypeId} {S : Nat → Prop} {w : World} {g : Nat} {v : Value} {l : List G.Msg} {last : Int} (h : QAt T S w g v l last) (hT : T ≠ 237) (x : Int) : QAt T S (w.setCell ⟨g, 1, none⟩ (.int .i64 x)) g v l x :=
 ⟨h.head.put 1 (.int .i64 x), h.row.aside (p := ⟨g, 1, none⟩) (h.row.apartAt h.head (Ne.symm hT)) _, h.own, h.small, fun b hb => by rw [G.size_put]; exact h.lim b hb⟩
theorem QAt.alloc {T : TypeId} {S : Nat → Prop} {w : World} {g : Nat} {v : Value} {l : List G.Msg} {last : Int} (h : QAt T S w g v l last) (o : Obj) : QAt T S (w.alloc o) g v l last :=
 ⟨h.head.alloc o, h.row.alloc o, h.own, h.small, fun b hb => by simp; have := h.lim b hb; omega⟩
theorem QAt.drew {T : TypeId} {S : Nat → Prop} {w : World} {g : Nat} {v : Value} {l : List G.Msg} {last : Int} (h : QAt T S w g v l last) : QAt T S w.drew g v l last := ⟨h.head.drew, h.row.drew, h.own, h.small, h.lim⟩
theorem QAt.behind {T : TypeId} {S : Nat → Prop} {w w1 : World} {g : Nat} {v : Value} {l : List G.Msg} {last : Int} (h : QAt T S w g v l last) (hT : T ≠ 237) (hg : w.grownBy w1 v.ownBlock) : w1.cell? ⟨g, 0, none⟩ = some v ∧ w1.frozen? ⟨g, 0, none⟩ = false := by
 have hA := h.head.grown hg (fun e => h.row.apartAt h.head (Ne.symm hT) g e rfl)
 exact ⟨hA.here rfl, hA.soft 0⟩
theorem QAt.appended {T : TypeId} {S : Nat → Prop} {w w1 : World} {g b cap : Nat} {v : Value} {l : List G.Msg} {last : Int} {m : G.Msg} (h : QAt T S w g v l last) (hT : T ≠ 237) (hl : l.length < 200)
  (h1 : w1.ownsRow 0 237 3 (.slice (some ⟨b, 0, none⟩) (l.length + 1) cap) (l.length + 1) (l.flatMap G.Msg.enc ++ m.enc)) (hg : w.grownBy w1 v.ownBlock) (ho : v.ownBlock = some b ∨ b = w.heap.size) (hlt : b < w1.heap.size) :
  QAt T (G.Plus S w w1) (w1.setCell ⟨g, 0, none⟩ (.slice (some ⟨b, 0, none⟩) (l.length + 1) cap)) g (.slice (some ⟨b, 0, none⟩) (l.length + 1) cap) (l ++ [m]) last ∧
  G.Chg S w (w1.setCell ⟨g, 0, none⟩ (.slice (some ⟨b, 0, none⟩) (l.length + 1) cap)) := by
 obtain ⟨r1, r2⟩ := h.row.app h1 hg ho hlt
 have hd : G.At w1 g T #[v, .int .i64 last] := h.head.grown hg (fun e => h.row.apartAt h.head (Ne.symm hT) g e rfl)
 have e1 : (l ++ [m]).length = l.length + 1 := by simp
 have e2 : (l ++ [m]).flatMap G.Msg.enc = l.flatMap G.Msg.enc ++ m.enc := by simp
 refine ⟨⟨hd.put 0 _, ?_, .inl h.own, by rw [e1]; omega, fun c hc => by rw [G.size_put]; exact G.Plus.lim h.lim r2.size c hc⟩, r2.put (.inl h.own) _⟩
 rw [e1, e2]
 exact r1.aside (p := ⟨g, 0, none⟩) (r1.apartAt hd (Ne.symm hT)) _
theorem queAt (S : Nat → Prop) (g : Nat) (v : Value) (l : List G.Msg) (last now : Int) (w : World) (h : QAt 225 S w g v l last) :
  Calls Tryz.prog 132 #[.pointer (some ⟨g, 0, none⟩), .int .i64 now] w fun e w' => e = .returned (.bool (G.nowOk now)) ∧ QAt 225 S w' g v (G.nowLst l now) last ∧ G.Chg S w w' := by
 by_cases h0 : now < 0
 ·have e : G.nowOk now = false := by unfold G.nowOk; simp; omega
  have HH := J h
  rw [show G.nowLst l now = l by unfold G.nowLst; rw [e]; rfl, e]
  clear h e
  go_enter Tryz.func132, Tryz.ntmps132
  go_wp2_with fail
  go_ret
  exact ⟨rfl, HH.u, G.Chg.refl _ _⟩
 by_cases h1 : 1099511627776 < now
 ·have e : G.nowOk now = false := by unfold G.nowOk; simp; omega
  have HH := J h
  rw [show G.nowLst l now = l by unfold G.nowLst; rw [e]; rfl, e]
  clear h e
  go_enter Tryz.func132, Tryz.ntmps132
  go_wp2_with fail
  go_ret
  exact ⟨rfl, HH.u, G.Chg.refl _ _⟩
 have e : G.nowOk now = true := by unfold G.nowOk; simp; omega
 rw [show G.nowLst l now = G.backAll now l by unfold G.nowLst; rw [e]; rfl, e]
 obtain ⟨A, cap, rfl, k1, k2, _⟩ := h.row.slice
 have n0 : 0 ≤ now := by omega
 have n1 : now ≤ 1099511627776 := by omega
 have hc := h.head.here (i := 0) rfl
 have hs := h.small
 have HH := J h
 clear h e h0 h1 k1 k2
 go_enter Tryz.func132, Tryz.ntmps132
 go_wp2_with fail
 go_loopw [18] (fun i wr => ∃ k : Nat, k ≤ l.length ∧ i = .int .i64 k ∧ QAt 225 S wr g (.slice A l.length cap) (G.upTo (G.back now) l k) last ∧ G.Chg S w wr) (fun i _ => l.length - (intOf i).toNat)
 case atStart => exact ⟨0, by omega, rfl, by rw [G.upTo_zero]; exact HH.u, G.Chg.refl _ _⟩
 clear hc
 obtain ⟨k, hk, rfl, hq, hch⟩ := hrel
 by_cases hlt : k < l.length
 ·obtain ⟨m, hm⟩ := G.get_some l hlt
  have hm2 : (G.upTo (G.back now) l k)[k]? = some m := by rw [G.upTo_get]; exact hm
  obtain ⟨b, cap', e, hS, hgb, k1, k2, c0, c1, c2, f0, f1, f2⟩ := hq.msg (by decide) hm2
  rw [G.upTo_length] at e
  cases e
  have hc := hq.head.here (i := 0) rfl
  have i0 : (0 : Int) ≤ (k : Int) := by omega
  have i1 : (k : Int) < (l.length : Int) := by omega
  by_cases ht : m.taken = true ∧ m.till ≤ now
  ·obtain ⟨t1, t2⟩ := ht
   have HN := J (hq.put2 (by decide) hm2 0 false)
   have HE := J (G.upTo_succ (f := G.back now) hm)
   have HB := J (show G.back now m = ⟨m.id, 0, false⟩ by unfold G.back; rw [t1]; simp [t2])
   have HC := J hch
   clear hq hch hm hm2 k1 k2
   go_wp2_with fail
   go_roundw
   case rel => exact ⟨k + 1, by omega, by go_num, by rw [← HE.u, HB.u]; exact HN.u.1, HC.u.trans HN.u.2⟩
   case measure => simp [intOf]; omega
  have HB := J (G.upTo_same (f := G.back now) hm (by unfold G.back; rw [if_neg]; simpa using ht))
  have HQ := J hq
  have HC := J hch
  clear hq hch hm hm2 k1 k2
  cases t1 : m.taken
  ·rw [t1] at c2
   clear ht t1
   go_wp2_with fail
   go_roundw
   case rel => exact ⟨k + 1, by omega, by go_num, by rw [HB.u]; exact HQ.u, HC.u⟩
   case measure => simp [intOf]; omega
  rw [t1] at c2
  have t2 : now < m.till := by
   rcases Int.lt_or_le now m.till with c | c
   ·exact c
   exact absurd ⟨t1, c⟩ ht
  clear ht t1
  go_wp2_with fail
  go_roundw
  case rel => exact ⟨k + 1, by omega, by go_num, by rw [HB.u]; exact HQ.u, HC.u⟩
  case measure => simp [intOf]; omega
 have hke : k = l.length := by omega
 have HE := J (G.upTo_all (G.back now) l)
 rw [hke] at hq
 have HQ := J hq
 have HC := J hch
 clear hq hch hke
 go_wp2_with fail
 go_ret
 exact ⟨rfl, by have := HQ.u; rw [HE.u] at this; exact this, HC.u⟩
theorem put_round {T : TypeId} {S : Nat → Prop} {w wr w1 : World} {g b cap : Nat} {v : Value} {l : List G.Msg} {last x : Int} {m : G.Msg} {o : Obj} (hq : QAt T (G.Plus S w wr) wr g v l last) (ht : QAt T (G.Plus S w wr) (wr.setCell ⟨g, 1, none⟩ (.int .i64 x)) g v l x)
  (hc : G.Chg S w wr) (hT : T ≠ 237) (hl : l.length < 200)
  (h1 : w1.ownsRow 0 237 3 (.slice (some ⟨b, 0, none⟩) (l.length + 1) cap) (l.length + 1) (l.flatMap G.Msg.enc ++ m.enc)) (hg : ((wr.setCell ⟨g, 1, none⟩ (.int .i64 x)).alloc o).drew.grownBy w1 v.ownBlock)
  (ho : v.ownBlock = some b ∨ b = ((wr.setCell ⟨g, 1, none⟩ (.int .i64 x)).alloc o).drew.heap.size) (hlt : b < w1.heap.size) :
  QAt T (G.Plus S w (w1.setCell ⟨g, 0, none⟩ (.slice (some ⟨b, 0, none⟩) (l.length + 1) cap))) (w1.setCell ⟨g, 0, none⟩ (.slice (some ⟨b, 0, none⟩) (l.length + 1) cap)) g (.slice (some ⟨b, 0, none⟩) (l.length + 1) cap) (l ++ [m]) x ∧
  G.Chg S w (w1.setCell ⟨g, 0, none⟩ (.slice (some ⟨b, 0, none⟩) (l.length + 1) cap)) := by
 obtain ⟨q1, q2⟩ := (ht.alloc o).drew.appended hT hl h1 hg ho hlt
 have z1 := hc.size
 have z2 : ((wr.setCell ⟨g, 1, none⟩ (.int .i64 x)).alloc o).drew.heap.size = wr.heap.size + 1 := by show ((wr.setCell ⟨g, 1, none⟩ (.int .i64 x)).alloc o).heap.size = _; simp [World.setCell]
 have z3 := q2.size
 refine ⟨q1.mono (fun c hlt hb => ?_) (fun c hb => ?_), ?_⟩
 ·rcases hb with hb | hb
  ·exact hb.up (by omega)
  exact .inr ⟨by omega, hlt⟩
 ·rcases hb with hb | hb
  ·have := hq.lim c (.inl hb); omega
  exact hb.2
 have s1 : G.Chg (G.Plus S w wr) wr ((wr.setCell ⟨g, 1, none⟩ (.int .i64 x)).alloc o).drew := (((G.Chg.refl _ wr).put (p := ⟨g, 1, none⟩) (.inl hq.own) _).alloc o).drew
 exact hc.plus (s1.trans q2)
def PutPost (T : TypeId) (S : Nat → Prop) (w : World) (g : Nat) (l : List G.Msg) (last n : Int) (e : Ending) (w' : World) : Prop :=
 e = .returned (.tuple #[.int .i64 (G.putNum l last n), .int .i64 (G.putErr l n)]) ∧ (∃ v', QAt T (G.Plus S w w') w' g v' (G.putLst l last n) (G.putLast l last n)) ∧ G.Chg S w w'
theorem QAt.up {T : TypeId} {S : Nat → Prop} {w w0 : World} {g : Nat} {v : Value} {l : List G.Msg} {last : Int} (h : QAt T S w g v l last) : QAt T (G.Plus S w0 w) w g v l last := h.mono (fun _ _ hb => .inl hb) (fun b hb => by rcases hb with hb | hb; exact h.lim b hb; exact hb.2)
theorem quePut (S : Nat → Prop) (g : Nat) (v : Value) (l : List G.Msg) (last n : Int) (w : World) (h : QAt 225 S w g v l last) (l0 : 0 ≤ last) (l1 : last ≤ 4000000000000000000) :
  Calls Tryz.prog 92 #[.pointer (some ⟨g, 0, none⟩), .int .i64 n] w (PutPost 225 S w g l last n) := by
 obtain ⟨A, cap, rfl, k1, k2, _⟩ := h.row.slice
 have hc := h.head.here (i := 0) rfl
 have hd := h.head.here (i := 1) rfl
 have hs := h.small
 have HH := J h
 clear h k1 k2
 by_cases h0 : n < 1
 ·have HF := J (show PutPost 225 S w g l last n (.returned (.tuple #[.int .i64 0, .int .i64 1])) w from ⟨by simp [G.putNum, G.putErr, h0], ⟨_, by simp [G.putLst, G.putLast, h0]; exact HH.u.up⟩, G.Chg.refl _ _⟩)
  go_enter Tryz.func92, Tryz.ntmps92
  go_wp2_with fail
  go_ret2
  exact HF.u
 by_cases h1 : 200 < n + l.length
 ·have HF := J (show PutPost 225 S w g l last n (.returned (.tuple #[.int .i64 0, .int .i64 6])) w from ⟨by simp [G.putNum, G.putErr, h0, h1], ⟨_, by simp [G.putLst, G.putLast, h0, h1]; exact HH.u.up⟩, G.Chg.refl _ _⟩)
  have h2 : 200 - (l.length : Int) < n := by omega
  go_enter Tryz.func92, Tryz.ntmps92
  go_wp2_with fail
  go_ret2
  exact HF.u
 obtain ⟨N, rfl⟩ := Int.eq_ofNat_of_zero_le (show 0 ≤ n by omega)
 have hN : N + l.length ≤ 200 := by omega
 have HF : ∀ w', (∃ v', QAt 225 (G.Plus S w w') w' g v' (l ++ G.newMsgs last N) (last + N)) → G.Chg S w w' → PutPost 225 S w g l last (N : Int) (.returned (.tuple #[.int .i64 (last + 1), .int .i64 0])) w' := fun w' ⟨v', hq⟩ hch =>
  ⟨by simp only [G.putNum, G.putErr, if_neg h0, if_neg h1], ⟨v', by simp only [G.putLst, G.putLast, if_neg h0, if_neg h1, Int.toNat_natCast]; exact hq⟩, hch⟩
 have HF' := J HF
 have h2 : (N : Int) ≤ 200 - (l.length : Int) := by omega
 have h3 : (1 : Int) ≤ (N : Int) := by omega
 obtain ⟨i0, hi, hz0, hz1, hz2⟩ := info_parts info_msg
 clear h0 h1 HF
 go_enter Tryz.func92, Tryz.ntmps92
 go_wp2_with fail
 go_loopw [23] (fun i wr => ∃ (k : Nat) (vk : Value), k ≤ N ∧ i = .int .i64 k ∧ QAt 225 (G.Plus S w wr) wr g vk (l ++ G.newMsgs last k) (last + k) ∧ G.Chg S w wr) (fun i _ => N - (intOf i).toNat)
 case atStart => exact ⟨0, _, by omega, rfl, by simpa [G.newMsgs] using HH.u.up, G.Chg.refl _ _⟩
 clear hc hd
 obtain ⟨k, vk, hk, rfl, hq, hch⟩ := hrel
 by_cases hlt : k < N
 ·have hL : (l ++ G.newMsgs last k).length < 200 := by simp [G.newMsgs_length]; omega
  have HL := J (show l ++ G.newMsgs last (k + 1) = (l ++ G.newMsgs last k) ++ [⟨last + k + 1, 0, false⟩] by rw [G.newMsgs_succ, List.append_assoc, show last + 1 + (k : Int) = last + k + 1 by omega])
  generalize l ++ G.newMsgs last k = L at hq hL HL ⊢
  have hc : wr.cell? ⟨g, 0, none⟩ = some vk := hq.head.here rfl
  have hd := hq.head.here (i := 1) rfl
  have f0 := hq.head.soft 0; have f1 := hq.head.soft 1
  have hT := hq.tick (by decide) (last + k + 1)
  have HT := J hT
  have HQ := J hq
  have HC := J hch
  have hm3 : Hid (L.length + 1 ≤ maxLen) := by show _ ≤ _; simp only [maxLen]; omega
  have hm4 : Hid ((L.length + 1) * 24 ≤ 140737488355328) := by show _ ≤ _; omega
  have hLL := J hL
  have k0 : (k : Int) < (N : Int) := by omega
  have k1 : (k : Int) ≤ 200 := by omega
  have hgw : g < wr.heap.size := hq.head.inside
  clear hq hch hT hL
  go_wp2_with fail
  go_region_law (refine step_append_lies _ (by rfl) (.tmp 36) (.tmp 42) 223 (by rfl) 0 237 i0 (.agg #[.int .i64 0, .int .i64 0, .bool false]) 3 24 Tryz.underlying223 hi hz0 hz1 hz2 rfl (by decide) vk _ _ rfl (HT.u.alloc _).drew.row.owns ⟨wr.heap.size, 0, none⟩ 1 1 [.int .i64 (last + k + 1), .int .i64 0, .bool false] rfl rfl (G.new_cells_at (G.size_put wr _ _)) (by simp [Value.oneCell']) (by decide) hm3.u hm4.u (Nat.zero_le _) _ rfl ?_; intro gb cap1 w1 hown1 hg1 hl1 hl2; obtain ⟨c9, f9⟩ := (HT.u.alloc _).drew.behind (by decide) hg1)
  all_goals
   have HR := J (put_round (m := ⟨last + k + 1, 0, false⟩) HQ.u HT.u HC.u (by decide) hLL.u hown1 hg1 hl1 hl2)
   clear hown1 hg1 hl1 hl2 c9 f9 hc hd f0 f1
   go_wp2_with fail
   go_roundw
   case rel => exact ⟨k + 1, _, by omega, by go_num, by rw [HL.u, show last + ((k + 1 : Nat) : Int) = last + k + 1 by omega]; exact HR.u.1, HR.u.2⟩
   case measure => simp [intOf]; omega
 have hke : k = N := by omega
 subst hke
 have HF2 := J (HF'.u wr ⟨vk, hq⟩ hch)
 clear hq hch
 go_wp2_with fail
 go_ret2
 exact HF2.u
end Go.Proofs.YtoidcbpcnikejaaGreatDoor
