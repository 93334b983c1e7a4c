/- The contracts of package queue. -/
import Derived.WalkKit
import Derived.WalkSpells
import Derived.WalkLawsBesides
import Derived.Lib.Hide
import Derived.Handy
import Derived.RegionTactic
import Derived.BigRegion
import Derived.Deep.QuietTactic
import Derived.BigQuiet
import Derived.Deep.RegionLaw
import Derived.Deep.AppendLies
import Derived.Deep.DeepCutAuto
import Derived.Test.YtidonhndeohdlaaGreatDoorRows
import Derived.Test.YtidonhndeohdlaaGreatDoorTt02
set_option linter.unusedVariables false
set_option linter.unusedSimpArgs false
namespace Go.Proofs.YtidonhndeohdlaaGreatDoor
open Go.RowKit
theorem info_msg : (Tryz.prog.info? 143).map (fun i => (i.zero, i.size, i.bytes)) = some (some (.agg #[.int .i64 0, .int .i64 0, .bool false]), 3, 24) := by kernel_rfl
structure QAt (T : TypeId) (S : Nat → Prop) (w : World) (g : Nat) (v : Value) (l : List Tide.Msg) (last : Int) : Prop where
  head : Tide.At w g T #[v, .int .i64 last]
  row : Tide.OwnRow S w 143 3 v l.length (l.flatMap Tide.Msg.enc)
  own : S g
  small : l.length ≤ 200
  lim : ∀ b, S b → b < w.heap.size
theorem QAt.chg {T : TypeId} {S C : Nat → Prop} {w w' : World} {g : Nat} {v : Value} {l : List Tide.Msg} {last : Int} (h : QAt T S w g v l last) (hc : Tide.Chg C w w') (hs : ∀ b, S b → ¬ C b) : QAt T S w' g v l last :=
  ⟨h.head.chg hc (hs g h.own), h.row.chg hc hs, h.own, h.small, fun b hb => Nat.lt_of_lt_of_le (h.lim b hb) hc.size⟩
theorem QAt.mono {T : TypeId} {S S' : Nat → Prop} {w : World} {g : Nat} {v : Value} {l : List Tide.Msg} {last : Int} (h : QAt T S w g v l last) (hs : ∀ b, b < w.heap.size → S b → S' b) (hl : ∀ b, S' b → b < w.heap.size) : QAt T S' w g v l last :=
  ⟨h.head, h.row.mono hs, hs g h.head.inside h.own, h.small, hl⟩
theorem QAt.msg {T : TypeId} {S : Nat → Prop} {w : World} {g : Nat} {v : Value} {l : List Tide.Msg} {last : Int} (h : QAt T S w g v l last) (hT : T ≠ 143) {k : Nat} {m : Tide.Msg} (hk : l[k]? = some m) :
    ∃ b cap, v = .slice (some ⟨b, 0, none⟩) l.length cap ∧ S b ∧ g ≠ b ∧ l.length ≤ cap ∧ cap ≤ maxLen ∧ w.cell? ⟨b, k * 3, none⟩ = some (.int .i64 m.id) ∧ w.cell? ⟨b, k * 3 + 1, none⟩ = some (.int .i64 m.till) ∧ w.cell? ⟨b, k * 3 + 2, none⟩ = some (.bool m.taken) ∧
      w.frozen? ⟨b, k * 3, none⟩ = false ∧ w.frozen? ⟨b, k * 3 + 1, none⟩ = false ∧ w.frozen? ⟨b, k * 3 + 2, none⟩ = false := by
  obtain ⟨b, cap, e, hS, h1, h2, h3⟩ := h.row.form (by have := Tide.get_lt hk; omega)
  exact ⟨b, cap, e, hS, (h3.apartAt h.head (Ne.symm hT)).symm, h1, h2, h3.cell (Tide.flat_get (j := 0) Tide.Msg.enc_length hk rfl), h3.cell (Tide.flat_get (j := 1) Tide.Msg.enc_length hk rfl), h3.cell (Tide.flat_get (j := 2) Tide.Msg.enc_length hk rfl), h3.soft _, h3.soft _, h3.soft _⟩
theorem QAt.put2 {T : TypeId} {S : Nat → Prop} {w : World} {g b cap n : Nat} {l : List Tide.Msg} {last : Int} (h : QAt T S w g (.slice (some ⟨b, 0, none⟩) n cap) l last) (hT : T ≠ 143) {k : Nat} {m : Tide.Msg} (hk : l[k]? = some m) (t : Int) (x : Bool) :
    QAt T S ((w.setCell ⟨b, k * 3 + 2, none⟩ (.bool x)).setCell ⟨b, k * 3 + 1, none⟩ (.int .i64 t)) g (.slice (some ⟨b, 0, none⟩) n cap) (l.set k ⟨m.id, t, x⟩) last ∧ Tide.Chg S w ((w.setCell ⟨b, k * 3 + 2, none⟩ (.bool x)).setCell ⟨b, k * 3 + 1, none⟩ (.int .i64 t)) := by
  have hkl := Tide.get_lt hk
  obtain ⟨b', cap', e, hS, h1, h2, h3⟩ := h.row.form (by omega)
  cases e
  have hgb : g ≠ b := (h3.apartAt h.head (Ne.symm hT)).symm
  have hr := h.row
  have f1 := Tide.flat_lt Tide.Msg.enc_length hkl (show 2 < 3 by omega)
  have f2 := Tide.flat_lt Tide.Msg.enc_length hkl (show 1 < 3 by omega)
  refine ⟨⟨(h.head.other (p := ⟨b, k * 3 + 2, none⟩) hgb _).other (p := ⟨b, k * 3 + 1, none⟩) hgb _, ?_, h.own, by rw [List.length_set]; exact h.small, fun b hb => by rw [Tide.size_put, Tide.size_put]; exact h.lim b hb⟩, ((Tide.Chg.refl S w).put (p := ⟨b, k * 3 + 2, none⟩) (.inl hS) _).put (p := ⟨b, k * 3 + 1, none⟩) (.inl hS) _⟩
  have p1 := (hr.put f1 (.bool x)).put (i := k * 3 + 1) (by rw [List.length_set]; exact f2) (.int .i64 t)
  rw [Tide.flat_set (a' := ⟨m.id, m.till, x⟩) Tide.Msg.enc_length hk (by omega) rfl, Tide.flat_set (a := ⟨m.id, m.till, x⟩) (a' := ⟨m.id, t, x⟩) Tide.Msg.enc_length (by simp [hkl]) (by omega) rfl, List.set_set] at p1
  rw [List.length_set]
  exact p1
theorem QAt.tick {T : TypeId} {S : Nat → Prop} {w : World} {g : Nat} {v : Value} {l : List Tide.Msg} {last : Int} (h : QAt T S w g v l last) (hT : T ≠ 143) (x : Int) : QAt T S (w.setCell ⟨g, 1, none⟩ (.int .i64 x)) g v l x :=
  ⟨h.head.put 1 (.int .i64 x), h.row.aside (p := ⟨g, 1, none⟩) (h.row.apartAt h.head (Ne.symm hT)) _, h.own, h.small, fun b hb => by rw [Tide.size_put]; exact h.lim b hb⟩
theorem QAt.alloc {T : TypeId} {S : Nat → Prop} {w : World} {g : Nat} {v : Value} {l : List Tide.Msg} {last : Int} (h : QAt T S w g v l last) (o : Obj) : QAt T S (w.alloc o) g v l last :=
  ⟨h.head.alloc o, h.row.alloc o, h.own, h.small, fun b hb => by simp; have := h.lim b hb; omega⟩
theorem QAt.drew {T : TypeId} {S : Nat → Prop} {w : World} {g : Nat} {v : Value} {l : List Tide.Msg} {last : Int} (h : QAt T S w g v l last) : QAt T S w.drew g v l last := ⟨h.head.drew, h.row.drew, h.own, h.small, h.lim⟩
theorem QAt.behind {T : TypeId} {S : Nat → Prop} {w w1 : World} {g : Nat} {v : Value} {l : List Tide.Msg} {last : Int} (h : QAt T S w g v l last) (hT : T ≠ 143) (hg : w.grownBy w1 v.ownBlock) : w1.cell? ⟨g, 0, none⟩ = some v ∧ w1.frozen? ⟨g, 0, none⟩ = false := by
  have hA := h.head.grown hg (fun e => h.row.apartAt h.head (Ne.symm hT) g e rfl)
  exact ⟨hA.here rfl, hA.soft 0⟩
theorem QAt.appended {T : TypeId} {S : Nat → Prop} {w w1 : World} {g b cap : Nat} {v : Value} {l : List Tide.Msg} {last : Int} {m : Tide.Msg} (h : QAt T S w g v l last) (hT : T ≠ 143) (hl : l.length < 200)
    (h1 : w1.ownsRow 0 143 3 (.slice (some ⟨b, 0, none⟩) (l.length + 1) cap) (l.length + 1) (l.flatMap Tide.Msg.enc ++ m.enc)) (hg : w.grownBy w1 v.ownBlock) (ho : v.ownBlock = some b ∨ b = w.heap.size) (hlt : b < w1.heap.size) :
    QAt T (Tide.Plus S w w1) (w1.setCell ⟨g, 0, none⟩ (.slice (some ⟨b, 0, none⟩) (l.length + 1) cap)) g (.slice (some ⟨b, 0, none⟩) (l.length + 1) cap) (l ++ [m]) last ∧
    Tide.Chg S w (w1.setCell ⟨g, 0, none⟩ (.slice (some ⟨b, 0, none⟩) (l.length + 1) cap)) := by
  obtain ⟨r1, r2⟩ := h.row.app h1 hg ho hlt
  have hd : Tide.At w1 g T #[v, .int .i64 last] := h.head.grown hg (fun e => h.row.apartAt h.head (Ne.symm hT) g e rfl)
  have e1 : (l ++ [m]).length = l.length + 1 := by simp
  have e2 : (l ++ [m]).flatMap Tide.Msg.enc = l.flatMap Tide.Msg.enc ++ m.enc := by simp
  refine ⟨⟨hd.put 0 _, ?_, .inl h.own, by rw [e1]; omega, fun c hc => by rw [Tide.size_put]; exact Tide.Plus.lim h.lim r2.size c hc⟩, r2.put (.inl h.own) _⟩
  rw [e1, e2]
  exact r1.aside (p := ⟨g, 0, none⟩) (r1.apartAt hd (Ne.symm hT)) _
set_option maxRecDepth 100000 in
set_option maxHeartbeats 1600000 in
theorem queAt (S : Nat → Prop) (g : Nat) (v : Value) (l : List Tide.Msg) (last now : Int) (w : World) (h : QAt 134 S w g v l last) :
    Calls Tryz.prog 66 #[.pointer (some ⟨g, 0, none⟩), .int .i64 now] w fun e w' => e = .returned (.bool (Tide.nowOk now)) ∧ QAt 134 S w' g v (Tide.nowLst l now) last ∧ Tide.Chg S w w' := by
  by_cases h0 : now < 0
  · have e : Tide.nowOk now = false := by unfold Tide.nowOk; simp; omega
    have HH := Lib.hid h
    rw [show Tide.nowLst l now = l by unfold Tide.nowLst; rw [e]; rfl, e]
    clear h e
    go_enter Tryz.func66, Tryz.ntmps66
    go_wp2_with fail
    go_ret
    exact ⟨rfl, HH.out, Tide.Chg.refl _ _⟩
  by_cases h1 : 1099511627776 < now
  · have e : Tide.nowOk now = false := by unfold Tide.nowOk; simp; omega
    have HH := Lib.hid h
    rw [show Tide.nowLst l now = l by unfold Tide.nowLst; rw [e]; rfl, e]
    clear h e
    go_enter Tryz.func66, Tryz.ntmps66
    go_wp2_with fail
    go_ret
    exact ⟨rfl, HH.out, Tide.Chg.refl _ _⟩
  have e : Tide.nowOk now = true := by unfold Tide.nowOk; simp; omega
  rw [show Tide.nowLst l now = Tide.backAll now l by unfold Tide.nowLst; rw [e]; rfl, e]
  obtain ⟨A, cap, rfl, k1, k2, _⟩ := h.row.slice
  have n0 : 0 ≤ now := by omega
  have n1 : now ≤ 1099511627776 := by omega
  have hc : w.cell? ⟨g, 0, none⟩ = some (.slice A l.length cap) := h.head.here rfl
  have hs := h.small
  have HH := Lib.hid h
  clear h e h0 h1 k1 k2
  go_enter Tryz.func66, Tryz.ntmps66
  go_wp2_with fail
  go_loopw [18] (fun i wr => ∃ k : Nat, k ≤ l.length ∧ i = .int .i64 k ∧ QAt 134 S wr g (.slice A l.length cap) (Tide.upTo (Tide.back now) l k) last ∧ Tide.Chg S w wr) (fun i _ => l.length - (intOf i).toNat)
  case atStart => exact ⟨0, by omega, rfl, by rw [Tide.upTo_zero]; exact HH.out, Tide.Chg.refl _ _⟩
  case round =>
    clear hc
    obtain ⟨k, hk, rfl, hq, hch⟩ := hrel
    by_cases hlt : k < l.length
    · obtain ⟨m, hm⟩ := Tide.get_some l hlt
      have hm2 : (Tide.upTo (Tide.back now) l k)[k]? = some m := by rw [Tide.upTo_get]; exact hm
      obtain ⟨b, cap', e, hS, hgb, k1, k2, c0, c1, c2, f0, f1, f2⟩ := hq.msg (by decide) hm2
      rw [Tide.upTo_length] at e
      cases e
      have hc : wr.cell? ⟨g, 0, none⟩ = some (.slice (some ⟨b, 0, none⟩) l.length cap) := hq.head.here rfl
      have i0 : (0 : Int) ≤ (k : Int) := by omega
      have i1 : (k : Int) < (l.length : Int) := by omega
      by_cases ht : m.taken = true ∧ m.till ≤ now
      · obtain ⟨t1, t2⟩ := ht
        have HN := Lib.hid (hq.put2 (by decide) hm2 0 false)
        have HE := Lib.hid (Tide.upTo_succ (f := Tide.back now) hm)
        have HB := Lib.hid (show Tide.back now m = ⟨m.id, 0, false⟩ by unfold Tide.back; rw [t1]; simp [t2])
        have HC := Lib.hid hch
        clear hq hch hm hm2 k1 k2
        go_wp2_with fail
        go_roundw
        case rel => exact ⟨k + 1, by omega, by go_num, by rw [← HE.out, HB.out]; exact HN.out.1, HC.out.trans HN.out.2⟩
        case measure => simp [intOf]; omega
      · have HB := Lib.hid (Tide.upTo_same (f := Tide.back now) hm (by unfold Tide.back; rw [if_neg]; simpa using ht))
        have HQ := Lib.hid hq
        have HC := Lib.hid hch
        clear hq hch hm hm2 k1 k2
        cases t1 : m.taken
        · rw [t1] at c2
          clear ht t1
          go_wp2_with fail
          go_roundw
          case rel => exact ⟨k + 1, by omega, by go_num, by rw [HB.out]; exact HQ.out, HC.out⟩
          case measure => simp [intOf]; omega
        · rw [t1] at c2
          have t2 : now < m.till := by
            rcases Int.lt_or_le now m.till with c | c
            · exact c
            · exact absurd ⟨t1, c⟩ ht
          clear ht t1
          go_wp2_with fail
          go_roundw
          case rel => exact ⟨k + 1, by omega, by go_num, by rw [HB.out]; exact HQ.out, HC.out⟩
          case measure => simp [intOf]; omega
    · have hke : k = l.length := by omega
      have HE := Lib.hid (Tide.upTo_all (Tide.back now) l)
      rw [hke] at hq
      have HQ := Lib.hid hq
      have HC := Lib.hid hch
      clear hq hch hke
      go_wp2_with fail
      go_ret
      exact ⟨rfl, by have := HQ.out; rw [HE.out] at this; exact this, HC.out⟩
theorem put_round {T : TypeId} {S : Nat → Prop} {w wr w1 : World} {g b cap : Nat} {v : Value} {l : List Tide.Msg} {last x : Int} {m : Tide.Msg} {o : Obj} (hq : QAt T (Tide.Plus S w wr) wr g v l last) (ht : QAt T (Tide.Plus S w wr) (wr.setCell ⟨g, 1, none⟩ (.int .i64 x)) g v l x)
    (hc : Tide.Chg S w wr) (hT : T ≠ 143) (hl : l.length < 200)
    (h1 : w1.ownsRow 0 143 3 (.slice (some ⟨b, 0, none⟩) (l.length + 1) cap) (l.length + 1) (l.flatMap Tide.Msg.enc ++ m.enc)) (hg : ((wr.setCell ⟨g, 1, none⟩ (.int .i64 x)).alloc o).drew.grownBy w1 v.ownBlock)
    (ho : v.ownBlock = some b ∨ b = ((wr.setCell ⟨g, 1, none⟩ (.int .i64 x)).alloc o).drew.heap.size) (hlt : b < w1.heap.size) :
    QAt T (Tide.Plus S w (w1.setCell ⟨g, 0, none⟩ (.slice (some ⟨b, 0, none⟩) (l.length + 1) cap))) (w1.setCell ⟨g, 0, none⟩ (.slice (some ⟨b, 0, none⟩) (l.length + 1) cap)) g (.slice (some ⟨b, 0, none⟩) (l.length + 1) cap) (l ++ [m]) x ∧
    Tide.Chg S w (w1.setCell ⟨g, 0, none⟩ (.slice (some ⟨b, 0, none⟩) (l.length + 1) cap)) := by
  obtain ⟨q1, q2⟩ := (ht.alloc o).drew.appended hT hl h1 hg ho hlt
  have z1 := hc.size
  have z2 : ((wr.setCell ⟨g, 1, none⟩ (.int .i64 x)).alloc o).drew.heap.size = wr.heap.size + 1 := by show ((wr.setCell ⟨g, 1, none⟩ (.int .i64 x)).alloc o).heap.size = _; simp [World.setCell]
  have z3 := q2.size
  refine ⟨q1.mono (fun c hlt hb => ?_) (fun c hb => ?_), ?_⟩
  · rcases hb with hb | hb
    · exact hb.up (by omega)
    · exact .inr ⟨by omega, hlt⟩
  · rcases hb with hb | hb
    · have := hq.lim c (.inl hb); omega
    · exact hb.2
  · have s1 : Tide.Chg (Tide.Plus S w wr) wr ((wr.setCell ⟨g, 1, none⟩ (.int .i64 x)).alloc o).drew := (((Tide.Chg.refl _ wr).put (p := ⟨g, 1, none⟩) (.inl hq.own) _).alloc o).drew
    exact hc.plus (s1.trans q2)
def PutPost (T : TypeId) (S : Nat → Prop) (w : World) (g : Nat) (l : List Tide.Msg) (last n : Int) (e : Ending) (w' : World) : Prop :=
  e = .returned (.tuple #[.int .i64 (Tide.putNum l last n), .int .i64 (Tide.putErr l n)]) ∧ (∃ v', QAt T (Tide.Plus S w w') w' g v' (Tide.putLst l last n) (Tide.putLast l last n)) ∧ Tide.Chg S w w'
theorem QAt.up {T : TypeId} {S : Nat → Prop} {w w0 : World} {g : Nat} {v : Value} {l : List Tide.Msg} {last : Int} (h : QAt T S w g v l last) : QAt T (Tide.Plus S w0 w) w g v l last := h.mono (fun _ _ hb => .inl hb) (fun b hb => by rcases hb with hb | hb; exact h.lim b hb; exact hb.2)
set_option maxRecDepth 100000 in
set_option maxHeartbeats 3200000 in
theorem quePut (S : Nat → Prop) (g : Nat) (v : Value) (l : List Tide.Msg) (last n : Int) (w : World) (h : QAt 134 S w g v l last) (l0 : 0 ≤ last) (l1 : last ≤ 4000000000000000000) :
    Calls Tryz.prog 33 #[.pointer (some ⟨g, 0, none⟩), .int .i64 n] w (PutPost 134 S w g l last n) := by
  obtain ⟨A, cap, rfl, k1, k2, _⟩ := h.row.slice
  have hc : w.cell? ⟨g, 0, none⟩ = some (.slice A l.length cap) := h.head.here rfl
  have hd : w.cell? ⟨g, 1, none⟩ = some (.int .i64 last) := h.head.here rfl
  have hs := h.small
  have HH := Lib.hid h
  clear h k1 k2
  by_cases h0 : n < 1
  · have HF := Lib.hid (show PutPost 134 S w g l last n (.returned (.tuple #[.int .i64 0, .int .i64 1])) w from ⟨by simp [Tide.putNum, Tide.putErr, h0], ⟨_, by simp [Tide.putLst, Tide.putLast, h0]; exact HH.out.up⟩, Tide.Chg.refl _ _⟩)
    go_enter Tryz.func33, Tryz.ntmps33
    go_wp2_with fail
    go_ret2
    exact HF.out
  by_cases h1 : 200 < n + l.length
  · have HF := Lib.hid (show PutPost 134 S w g l last n (.returned (.tuple #[.int .i64 0, .int .i64 6])) w from ⟨by simp [Tide.putNum, Tide.putErr, h0, h1], ⟨_, by simp [Tide.putLst, Tide.putLast, h0, h1]; exact HH.out.up⟩, Tide.Chg.refl _ _⟩)
    have h2 : 200 - (l.length : Int) < n := by omega
    go_enter Tryz.func33, Tryz.ntmps33
    go_wp2_with fail
    go_ret2
    exact HF.out
  obtain ⟨N, rfl⟩ := Int.eq_ofNat_of_zero_le (show 0 ≤ n by omega)
  have hN : N + l.length ≤ 200 := by omega
  have HF : ∀ w', (∃ v', QAt 134 (Tide.Plus S w w') w' g v' (l ++ Tide.newMsgs last N) (last + N)) → Tide.Chg S w w' → PutPost 134 S w g l last (N : Int) (.returned (.tuple #[.int .i64 (last + 1), .int .i64 0])) w' := fun w' ⟨v', hq⟩ hch =>
    ⟨by simp only [Tide.putNum, Tide.putErr, if_neg h0, if_neg h1], ⟨v', by simp only [Tide.putLst, Tide.putLast, if_neg h0, if_neg h1, Int.toNat_natCast]; exact hq⟩, hch⟩
  have HF' := Lib.hid HF
  have h2 : (N : Int) ≤ 200 - (l.length : Int) := by omega
  have h3 : (1 : Int) ≤ (N : Int) := by omega
  obtain ⟨i0, hi, hz0, hz1, hz2⟩ := info_parts info_msg
  clear h0 h1 HF
  go_enter Tryz.func33, Tryz.ntmps33
  go_wp2_with fail
  go_loopw [23] (fun i wr => ∃ (k : Nat) (vk : Value), k ≤ N ∧ i = .int .i64 k ∧ QAt 134 (Tide.Plus S w wr) wr g vk (l ++ Tide.newMsgs last k) (last + k) ∧ Tide.Chg S w wr) (fun i _ => N - (intOf i).toNat)
  case atStart => exact ⟨0, _, by omega, rfl, by simpa [Tide.newMsgs] using HH.out.up, Tide.Chg.refl _ _⟩
  case round =>
    clear hc hd
    obtain ⟨k, vk, hk, rfl, hq, hch⟩ := hrel
    by_cases hlt : k < N
    · have hL : (l ++ Tide.newMsgs last k).length < 200 := by simp [Tide.newMsgs_length]; omega
      have HL := Lib.hid (show l ++ Tide.newMsgs last (k + 1) = (l ++ Tide.newMsgs last k) ++ [⟨last + k + 1, 0, false⟩] by rw [Tide.newMsgs_succ, List.append_assoc, show last + 1 + (k : Int) = last + k + 1 by omega])
      generalize l ++ Tide.newMsgs last k = L at hq hL HL ⊢
      have hc : wr.cell? ⟨g, 0, none⟩ = some vk := hq.head.here rfl
      have hd : wr.cell? ⟨g, 1, none⟩ = some (.int .i64 (last + k)) := hq.head.here rfl
      have f0 := hq.head.soft 0; have f1 := hq.head.soft 1
      have hT := hq.tick (by decide) (last + k + 1)
      have HT := Lib.hid hT
      have HQ := Lib.hid hq
      have HC := Lib.hid hch
      have hm3 : Hid (L.length + 1 ≤ maxLen) := by show _ ≤ _; simp only [maxLen]; omega
      have hm4 : Hid ((L.length + 1) * 24 ≤ 140737488355328) := by show _ ≤ _; omega
      have hLL := Lib.hid hL
      have k0 : (k : Int) < (N : Int) := by omega
      have k1 : (k : Int) ≤ 200 := by omega
      have hgw : g < wr.heap.size := hq.head.inside
      clear hq hch hT hL
      go_wp2_with fail
      go_region_law (refine step_append_lies _ (by rfl) (.tmp 36) (.tmp 42) 132 (by rfl) 0 143 i0 (.agg #[.int .i64 0, .int .i64 0, .bool false]) 3 24 Tryz.underlying132 hi hz0 hz1 hz2 rfl (by decide) vk _ _ rfl (HT.out.alloc _).drew.row.owns ⟨wr.heap.size, 0, none⟩ 1 1 [.int .i64 (last + k + 1), .int .i64 0, .bool false] rfl rfl (Tide.new_cells_at (Tide.size_put wr _ _)) (by simp [Value.oneCell']) (by decide) hm3.out hm4.out (Nat.zero_le _) _ rfl ?_; intro gb cap1 w1 hown1 hg1 hl1 hl2; obtain ⟨c9, f9⟩ := (HT.out.alloc _).drew.behind (by decide) hg1)
      all_goals
        have HR := Lib.hid (put_round (m := ⟨last + k + 1, 0, false⟩) HQ.out HT.out HC.out (by decide) hLL.out hown1 hg1 hl1 hl2)
        clear hown1 hg1 hl1 hl2 c9 f9 hc hd f0 f1
        go_wp2_with fail
        go_roundw
        case rel => exact ⟨k + 1, _, by omega, by go_num, by rw [HL.out, show last + ((k + 1 : Nat) : Int) = last + k + 1 by omega]; exact HR.out.1, HR.out.2⟩
        case measure => simp [intOf]; omega
    · have hke : k = N := by omega
      subst hke
      have HF2 := Lib.hid (HF'.out wr ⟨vk, hq⟩ hch)
      clear hq hch
      go_wp2_with fail
      go_ret2
      exact HF2.out
end Go.Proofs.YtidonhndeohdlaaGreatDoor
