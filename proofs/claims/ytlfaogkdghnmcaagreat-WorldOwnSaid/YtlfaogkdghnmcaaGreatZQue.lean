/- What a queue does, as plain functions on lists. The contracts of package queue. slices.Delete, slices.Clone, slices.IndexFunc at the messages of a queue. The contracts of package queue: Lease, Ack, All, Depth, New. -/
import Derived.Test.YtlfaogkdghnmcaaGreatZBase
import Derived.Test.YtlfaogkdghnmcaaGreatRows
import Derived.WalkKit
import Derived.WalkSpells
import Derived.WalkLawsBesides
import Derived.Lib.Hide
import Derived.Handy
import Derived.RegionTactic
import Derived.BigRegion
import Derived.Deep.QuietTactic
import Derived.BigQuiet
import Derived.Deep.RegionLaw
import Derived.Deep.AppendLies
import Derived.Deep.DeepCutAuto
import Derived.Lib.SliceRun

set_option linter.unusedVariables false
set_option linter.unusedSimpArgs false
namespace Tide
open Go
/-- a message: its number, till when it is lent, whether it is -/
structure Msg where
  id : Int
  till : Int
  taken : Bool
  deriving DecidableEq
def Msg.enc (m : Msg) : List Value := [.int .i64 m.id, .int .i64 m.till, .bool m.taken]
theorem Msg.enc_length (m : Msg) : m.enc.length = 3 := rfl
/-- what was lent till a time is there again -/
def back (now : Int) (m : Msg) : Msg := if m.taken && decide (m.till ≤ now) then ⟨m.id, 0, false⟩ else m
def newMsgs (last : Int) (n : Nat) : List Msg := (List.range n).map fun i : Nat => ⟨last + 1 + (i : Int), 0, false⟩
theorem newMsgs_length (last : Int) (n : Nat) : (newMsgs last n).length = n := by simp [newMsgs]
theorem newMsgs_succ (last : Int) (n : Nat) : newMsgs last (n + 1) = newMsgs last n ++ [⟨last + 1 + n, 0, false⟩] := by simp [newMsgs, List.range_succ]
def nowOk (now : Int) : Bool := decide (0 ≤ now) && decide (now ≤ 1099511627776)
def free (m : Msg) : Bool := !m.taken
def backAll (now : Int) (l : List Msg) : List Msg := l.map (back now)
/-- Put: first number, error, list, last -/
def putNum (l : List Msg) (last n : Int) : Int := if n < 1 then 0 else if 200 < n + l.length then 0 else last + 1
def putErr (l : List Msg) (n : Int) : Int := if n < 1 then 1 else if 200 < n + l.length then 6 else 0
def putLst (l : List Msg) (last n : Int) : List Msg := if n < 1 then l else if 200 < n + l.length then l else l ++ newMsgs last n.toNat
def putLast (l : List Msg) (last n : Int) : Int := if n < 1 then last else if 200 < n + l.length then last else last + n
def leaseOk (now ticks : Int) : Bool := decide (1 ≤ ticks) && decide (ticks ≤ 100000) && nowOk now
def leaseNum (l : List Msg) (now ticks : Int) : Int := if leaseOk now ticks then (match firstAt free (backAll now l) with | none => 0 | some i => ((backAll now l)[i]?.map (·.id)).getD 0) else 0
def leaseErr (l : List Msg) (now ticks : Int) : Int := if leaseOk now ticks then (match firstAt free (backAll now l) with | none => 4 | some _ => 0) else 1
def lend (now ticks : Int) (m : Msg) : Msg := ⟨m.id, now + ticks, true⟩
def leaseLst (l : List Msg) (now ticks : Int) : List Msg := if leaseOk now ticks then (match firstAt free (backAll now l) with | none => backAll now l | some i => (backAll now l).modify i (lend now ticks)) else l
def isId (id : Int) (m : Msg) : Bool := m.id == id
def ackErr (l : List Msg) (now id : Int) : Int := if nowOk now then (match firstAt (isId id) (backAll now l) with | none => 4 | some i => match (backAll now l)[i]? with | some m => if m.taken then 0 else 7 | none => 4) else 1
def ackLst (l : List Msg) (now id : Int) : List Msg := if nowOk now then (match firstAt (isId id) (backAll now l) with | none => backAll now l | some i => match (backAll now l)[i]? with | some m => if m.taken then (backAll now l).eraseIdx i else backAll now l | none => backAll now l) else l
def nowLst (l : List Msg) (now : Int) : List Msg := if nowOk now then backAll now l else l
def nowErr (now : Int) : Int := if nowOk now then 0 else 1
def depthNum (l : List Msg) (now : Int) : Int := if nowOk now then ((backAll now l).countP free : Nat) else 0
def allLst (l : List Msg) (now : Int) : List Msg := if nowOk now then backAll now l else []
/-- the numbers of the messages go up -/
def Up (l : List Msg) : Prop := l.Pairwise (fun a b => a.id < b.id)
theorem back_id (now : Int) (m : Msg) : (back now m).id = m.id := by unfold back; split <;> rfl
theorem Up.backAll {l : List Msg} (h : Up l) (now : Int) : Up (backAll now l) := by
  unfold Up Tide.backAll
  rw [List.pairwise_map]
  exact h.imp fun {a b} hab => by rw [back_id, back_id]; exact hab
theorem Up.split {l : List Msg} (h : Up l) {i : Nat} {m : Msg} (hi : l[i]? = some m) : (∀ a ∈ l.take i, a.id < m.id) ∧ (∀ a ∈ l.drop (i + 1), m.id < a.id) := by
  have e : l = l.take i ++ (m :: l.drop (i + 1)) := by rw [← drop_of_get hi, List.take_append_drop]
  unfold Up at h
  rw [e, List.pairwise_append] at h
  obtain ⟨_, h2, h3⟩ := h
  rw [List.pairwise_cons] at h2
  exact ⟨fun a ha => h3 a ha m (by simp), fun a ha => h2.1 a ha⟩
/-- what the reference's Ack keeps, and what it tells -/
def stays (id : Int) (m : Msg) : Bool := !(m.id == id && m.taken)
def ackStep (id e : Int) (m : Msg) : Int := if m.id == id then (if m.taken then 0 else 7) else e
def ackE (id : Int) (l : List Msg) : Int := l.foldl (ackStep id) 4
theorem ackE_snoc (id : Int) {l : List Msg} {k : Nat} {m : Msg} (h : l[k]? = some m) : ackE id (l.take (k + 1)) = ackStep id (ackE id (l.take k)) m := by
  unfold ackE; rw [take_of_get h, List.foldl_append]; rfl
theorem fold_none (id : Int) : ∀ (l : List Msg) (e : Int), (∀ a ∈ l, a.id ≠ id) → l.foldl (ackStep id) e = e
  | [], e, _ => rfl
  | a :: l, e, h => by
    have h1 : ackStep id e a = e := by unfold ackStep; have := h a (by simp); simp [this]
    rw [List.foldl_cons, h1]; exact fold_none id l e (fun b hb => h b (by simp [hb]))
theorem filter_all (id : Int) (l : List Msg) (h : ∀ a ∈ l, a.id ≠ id) : l.filter (stays id) = l := by
  rw [List.filter_eq_self]; intro a ha; unfold stays; have := h a ha; simp [this]
theorem ack_same {l : List Msg} (h : Up l) (id : Int) : ackE id l = (match firstAt (isId id) l with | none => 4 | some i => match l[i]? with | some m => if m.taken then 0 else 7 | none => 4) ∧
    l.filter (stays id) = (match firstAt (isId id) l with | none => l | some i => match l[i]? with | some m => if m.taken then l.eraseIdx i else l | none => l) := by
  cases hf : firstAt (isId id) l with
  | none =>
    have hn : ∀ a ∈ l, a.id ≠ id := fun a ha => by
      obtain ⟨k, hk, e⟩ := List.mem_iff_getElem.1 ha
      have := firstAt_miss hf k a (by rw [List.getElem?_eq_getElem hk, e])
      unfold isId at this; simpa using this
    exact ⟨fold_none id l 4 hn, filter_all id l hn⟩
  | some i =>
    obtain ⟨m, hm, hp, _⟩ := firstAt_spec hf
    have hmi : m.id = id := by unfold isId at hp; simpa using hp
    obtain ⟨h1, h2⟩ := h.split hm
    have n1 : ∀ a ∈ l.take i, a.id ≠ id := fun a ha => by have := h1 a ha; omega
    have n2 : ∀ a ∈ l.drop (i + 1), a.id ≠ id := fun a ha => by have := h2 a ha; omega
    have e : l = l.take i ++ (m :: l.drop (i + 1)) := by rw [← drop_of_get hm, List.take_append_drop]
    have hk : ackStep id 4 m = if m.taken then 0 else 7 := by unfold ackStep; simp [hmi]
    simp only [hm]
    constructor
    · conv => lhs; rw [e]
      unfold ackE
      rw [List.foldl_append, fold_none id _ 4 n1, List.foldl_cons, hk, fold_none id _ _ n2]
    · conv => lhs; rw [e]
      rw [List.filter_append, filter_all id _ n1, List.filter_cons, filter_all id _ n2]
      cases ht : m.taken
      · have : stays id m = true := by unfold stays; simp [ht]
        simp only [this, if_true, Bool.false_eq_true, if_false]; exact e.symm
      · have : stays id m = false := by unfold stays; simp [ht, hmi]
        simp only [this, Bool.false_eq_true, if_false, if_true]
        rw [List.eraseIdx_eq_take_drop_succ]
end Tide


namespace Go.Proofs.YtlfaogkdghnmcaaGreat
open Go.RowKit
set_option linter.unusedVariables false

theorem info_msg : (Tryz.prog.info? 65).map (fun i => (i.zero, i.size, i.bytes)) = some (some (.agg #[.int .i64 0, .int .i64 0, .bool false]), 3, 24) := by kernel_rfl

/-- a queue (T: its type): its own block g, its messages v -/
structure QAt (T : TypeId) (S : Nat → Prop) (w : World) (g : Nat) (v : Value) (l : List Tide.Msg) (last : Int) : Prop where
  head : Tide.At w g T #[v, .int .i64 last]
  row : Tide.OwnRow S w 65 3 v l.length (l.flatMap Tide.Msg.enc)
  own : S g
  small : l.length ≤ 200
  lim : ∀ b, S b → b < w.heap.size

theorem QAt.chg {T : TypeId} {S C : Nat → Prop} {w w' : World} {g : Nat} {v : Value} {l : List Tide.Msg} {last : Int} (h : QAt T S w g v l last) (hc : Tide.Chg C w w') (hs : ∀ b, S b → ¬ C b) : QAt T S w' g v l last :=
  ⟨h.head.chg hc (hs g h.own), h.row.chg hc hs, h.own, h.small, fun b hb => Nat.lt_of_lt_of_le (h.lim b hb) hc.size⟩
theorem QAt.mono {T : TypeId} {S S' : Nat → Prop} {w : World} {g : Nat} {v : Value} {l : List Tide.Msg} {last : Int} (h : QAt T S w g v l last) (hs : ∀ b, b < w.heap.size → S b → S' b) (hl : ∀ b, S' b → b < w.heap.size) : QAt T S' w g v l last :=
  ⟨h.head, h.row.mono hs, hs g h.head.inside h.own, h.small, hl⟩
/-- one message, cell by cell -/
theorem QAt.msg {T : TypeId} {S : Nat → Prop} {w : World} {g : Nat} {v : Value} {l : List Tide.Msg} {last : Int} (h : QAt T S w g v l last) (hT : T ≠ 65) {k : Nat} {m : Tide.Msg} (hk : l[k]? = some m) :
    ∃ b cap, v = .slice (some ⟨b, 0, none⟩) l.length cap ∧ S b ∧ g ≠ b ∧ l.length ≤ cap ∧ cap ≤ maxLen ∧ w.cell? ⟨b, k * 3, none⟩ = some (.int .i64 m.id) ∧ w.cell? ⟨b, k * 3 + 1, none⟩ = some (.int .i64 m.till) ∧ w.cell? ⟨b, k * 3 + 2, none⟩ = some (.bool m.taken) ∧
      w.frozen? ⟨b, k * 3, none⟩ = false ∧ w.frozen? ⟨b, k * 3 + 1, none⟩ = false ∧ w.frozen? ⟨b, k * 3 + 2, none⟩ = false := by
  obtain ⟨b, cap, e, hS, h1, h2, h3⟩ := h.row.form (by have := Tide.get_lt hk; omega)
  exact ⟨b, cap, e, hS, (h3.apartAt h.head (Ne.symm hT)).symm, h1, h2, h3.cell (Tide.flat_get (j := 0) Tide.Msg.enc_length hk rfl), h3.cell (Tide.flat_get (j := 1) Tide.Msg.enc_length hk rfl), h3.cell (Tide.flat_get (j := 2) Tide.Msg.enc_length hk rfl), h3.soft _, h3.soft _, h3.soft _⟩
/-- a message's second and third cell are stored -/
theorem QAt.put2 {T : TypeId} {S : Nat → Prop} {w : World} {g b cap n : Nat} {l : List Tide.Msg} {last : Int} (h : QAt T S w g (.slice (some ⟨b, 0, none⟩) n cap) l last) (hT : T ≠ 65) {k : Nat} {m : Tide.Msg} (hk : l[k]? = some m) (t : Int) (x : Bool) :
    QAt T S ((w.setCell ⟨b, k * 3 + 2, none⟩ (.bool x)).setCell ⟨b, k * 3 + 1, none⟩ (.int .i64 t)) g (.slice (some ⟨b, 0, none⟩) n cap) (l.set k ⟨m.id, t, x⟩) last ∧ Tide.Chg S w ((w.setCell ⟨b, k * 3 + 2, none⟩ (.bool x)).setCell ⟨b, k * 3 + 1, none⟩ (.int .i64 t)) := by
  have hkl := Tide.get_lt hk
  obtain ⟨b', cap', e, hS, h1, h2, h3⟩ := h.row.form (by omega)
  cases e
  have hgb : g ≠ b := (h3.apartAt h.head (Ne.symm hT)).symm
  have hr := h.row
  have f1 := Tide.flat_lt Tide.Msg.enc_length hkl (show 2 < 3 by omega)
  have f2 := Tide.flat_lt Tide.Msg.enc_length hkl (show 1 < 3 by omega)
  refine ⟨⟨(h.head.other (p := ⟨b, k * 3 + 2, none⟩) hgb _).other (p := ⟨b, k * 3 + 1, none⟩) hgb _, ?_, h.own, by rw [List.length_set]; exact h.small, fun b hb => by rw [Tide.size_put, Tide.size_put]; exact h.lim b hb⟩, ((Tide.Chg.refl S w).put (p := ⟨b, k * 3 + 2, none⟩) (.inl hS) _).put (p := ⟨b, k * 3 + 1, none⟩) (.inl hS) _⟩
  have p1 := (hr.put f1 (.bool x)).put (i := k * 3 + 1) (by rw [List.length_set]; exact f2) (.int .i64 t)
  rw [Tide.flat_set (a' := ⟨m.id, m.till, x⟩) Tide.Msg.enc_length hk (by omega) rfl, Tide.flat_set (a := ⟨m.id, m.till, x⟩) (a' := ⟨m.id, t, x⟩) Tide.Msg.enc_length (by simp [hkl]) (by omega) rfl, List.set_set] at p1
  rw [List.length_set]
  exact p1
theorem QAt.tick {T : TypeId} {S : Nat → Prop} {w : World} {g : Nat} {v : Value} {l : List Tide.Msg} {last : Int} (h : QAt T S w g v l last) (hT : T ≠ 65) (x : Int) : QAt T S (w.setCell ⟨g, 1, none⟩ (.int .i64 x)) g v l x :=
  ⟨h.head.put 1 (.int .i64 x), h.row.aside (p := ⟨g, 1, none⟩) (h.row.apartAt h.head (Ne.symm hT)) _, h.own, h.small, fun b hb => by rw [Tide.size_put]; exact h.lim b hb⟩
theorem QAt.alloc {T : TypeId} {S : Nat → Prop} {w : World} {g : Nat} {v : Value} {l : List Tide.Msg} {last : Int} (h : QAt T S w g v l last) (o : Obj) : QAt T S (w.alloc o) g v l last :=
  ⟨h.head.alloc o, h.row.alloc o, h.own, h.small, fun b hb => by simp; have := h.lim b hb; omega⟩
theorem QAt.drew {T : TypeId} {S : Nat → Prop} {w : World} {g : Nat} {v : Value} {l : List Tide.Msg} {last : Int} (h : QAt T S w g v l last) : QAt T S w.drew g v l last := ⟨h.head.drew, h.row.drew, h.own, h.small, h.lim⟩
theorem QAt.behind {T : TypeId} {S : Nat → Prop} {w w1 : World} {g : Nat} {v : Value} {l : List Tide.Msg} {last : Int} (h : QAt T S w g v l last) (hT : T ≠ 65) (hg : w.grownBy w1 v.ownBlock) : w1.cell? ⟨g, 0, none⟩ = some v ∧ w1.frozen? ⟨g, 0, none⟩ = false := by
  have hA := h.head.grown hg (fun e => h.row.apartAt h.head (Ne.symm hT) g e rfl)
  exact ⟨hA.here rfl, hA.soft 0⟩
/-- behind the append of one message, and the store of the list -/
theorem QAt.appended {T : TypeId} {S : Nat → Prop} {w w1 : World} {g b cap : Nat} {v : Value} {l : List Tide.Msg} {last : Int} {m : Tide.Msg} (h : QAt T S w g v l last) (hT : T ≠ 65) (hl : l.length < 200)
    (h1 : w1.ownsRow 0 65 3 (.slice (some ⟨b, 0, none⟩) (l.length + 1) cap) (l.length + 1) (l.flatMap Tide.Msg.enc ++ m.enc)) (hg : w.grownBy w1 v.ownBlock) (ho : v.ownBlock = some b ∨ b = w.heap.size) (hlt : b < w1.heap.size) :
    QAt T (Tide.Plus S w w1) (w1.setCell ⟨g, 0, none⟩ (.slice (some ⟨b, 0, none⟩) (l.length + 1) cap)) g (.slice (some ⟨b, 0, none⟩) (l.length + 1) cap) (l ++ [m]) last ∧
    Tide.Chg S w (w1.setCell ⟨g, 0, none⟩ (.slice (some ⟨b, 0, none⟩) (l.length + 1) cap)) := by
  obtain ⟨r1, r2⟩ := h.row.app h1 hg ho hlt
  have hd : Tide.At w1 g T #[v, .int .i64 last] := h.head.grown hg (fun e => h.row.apartAt h.head (Ne.symm hT) g e rfl)
  have e1 : (l ++ [m]).length = l.length + 1 := by simp
  have e2 : (l ++ [m]).flatMap Tide.Msg.enc = l.flatMap Tide.Msg.enc ++ m.enc := by simp
  refine ⟨⟨hd.put 0 _, ?_, .inl h.own, by rw [e1]; omega, fun c hc => by rw [Tide.size_put]; exact Tide.Plus.lim h.lim r2.size c hc⟩, r2.put (.inl h.own) _⟩
  rw [e1, e2]
  exact r1.aside (p := ⟨g, 0, none⟩) (r1.apartAt hd (Ne.symm hT)) _

set_option maxRecDepth 100000 in
set_option maxHeartbeats 1600000 in
theorem queAt (S : Nat → Prop) (g : Nat) (v : Value) (l : List Tide.Msg) (last now : Int) (w : World) (h : QAt 147 S w g v l last) :
    Calls Tryz.prog 99 #[.pointer (some ⟨g, 0, none⟩), .int .i64 now] w fun e w' => e = .returned (.bool (Tide.nowOk now)) ∧ QAt 147 S w' g v (Tide.nowLst l now) last ∧ Tide.Chg S w w' := by
  by_cases h0 : now < 0
  · have e : Tide.nowOk now = false := by unfold Tide.nowOk; simp; omega
    have HH := Lib.hid h
    rw [show Tide.nowLst l now = l by unfold Tide.nowLst; rw [e]; rfl, e]
    clear h e
    go_enter Tryz.func99, Tryz.ntmps99
    go_wp2_with fail
    go_ret
    exact ⟨rfl, HH.out, Tide.Chg.refl _ _⟩
  by_cases h1 : 1099511627776 < now
  · have e : Tide.nowOk now = false := by unfold Tide.nowOk; simp; omega
    have HH := Lib.hid h
    rw [show Tide.nowLst l now = l by unfold Tide.nowLst; rw [e]; rfl, e]
    clear h e
    go_enter Tryz.func99, Tryz.ntmps99
    go_wp2_with fail
    go_ret
    exact ⟨rfl, HH.out, Tide.Chg.refl _ _⟩
  have e : Tide.nowOk now = true := by unfold Tide.nowOk; simp; omega
  rw [show Tide.nowLst l now = Tide.backAll now l by unfold Tide.nowLst; rw [e]; rfl, e]
  obtain ⟨A, cap, rfl, k1, k2, _⟩ := h.row.slice
  have n0 : 0 ≤ now := by omega
  have n1 : now ≤ 1099511627776 := by omega
  have hc : w.cell? ⟨g, 0, none⟩ = some (.slice A l.length cap) := h.head.here rfl
  have hs := h.small
  have HH := Lib.hid h
  clear h e h0 h1 k1 k2
  go_enter Tryz.func99, Tryz.ntmps99
  go_wp2_with fail
  go_loopw [18] (fun i wr => ∃ k : Nat, k ≤ l.length ∧ i = .int .i64 k ∧ QAt 147 S wr g (.slice A l.length cap) (Tide.upTo (Tide.back now) l k) last ∧ Tide.Chg S w wr) (fun i _ => l.length - (intOf i).toNat)
  case atStart => exact ⟨0, by omega, rfl, by rw [Tide.upTo_zero]; exact HH.out, Tide.Chg.refl _ _⟩
  case round =>
    clear hc
    obtain ⟨k, hk, rfl, hq, hch⟩ := hrel
    by_cases hlt : k < l.length
    · obtain ⟨m, hm⟩ := Tide.get_some l hlt
      have hm2 : (Tide.upTo (Tide.back now) l k)[k]? = some m := by rw [Tide.upTo_get]; exact hm
      obtain ⟨b, cap', e, hS, hgb, k1, k2, c0, c1, c2, f0, f1, f2⟩ := hq.msg (by decide) hm2
      rw [Tide.upTo_length] at e
      cases e
      have hc : wr.cell? ⟨g, 0, none⟩ = some (.slice (some ⟨b, 0, none⟩) l.length cap) := hq.head.here rfl
      have i0 : (0 : Int) ≤ (k : Int) := by omega
      have i1 : (k : Int) < (l.length : Int) := by omega
      by_cases ht : m.taken = true ∧ m.till ≤ now
      · obtain ⟨t1, t2⟩ := ht
        have HN := Lib.hid (hq.put2 (by decide) hm2 0 false)
        have HE := Lib.hid (Tide.upTo_succ (f := Tide.back now) hm)
        have HB := Lib.hid (show Tide.back now m = ⟨m.id, 0, false⟩ by unfold Tide.back; rw [t1]; simp [t2])
        have HC := Lib.hid hch
        clear hq hch hm hm2 k1 k2
        go_wp2_with fail
        go_roundw
        case rel => exact ⟨k + 1, by omega, by go_num, by rw [← HE.out, HB.out]; exact HN.out.1, HC.out.trans HN.out.2⟩
        case measure => simp [intOf]; omega
      · have HB := Lib.hid (Tide.upTo_same (f := Tide.back now) hm (by unfold Tide.back; rw [if_neg]; simpa using ht))
        have HQ := Lib.hid hq
        have HC := Lib.hid hch
        clear hq hch hm hm2 k1 k2
        cases t1 : m.taken
        · rw [t1] at c2
          clear ht t1
          go_wp2_with fail
          go_roundw
          case rel => exact ⟨k + 1, by omega, by go_num, by rw [HB.out]; exact HQ.out, HC.out⟩
          case measure => simp [intOf]; omega
        · rw [t1] at c2
          have t2 : now < m.till := by
            rcases Int.lt_or_le now m.till with c | c
            · exact c
            · exact absurd ⟨t1, c⟩ ht
          clear ht t1
          go_wp2_with fail
          go_roundw
          case rel => exact ⟨k + 1, by omega, by go_num, by rw [HB.out]; exact HQ.out, HC.out⟩
          case measure => simp [intOf]; omega
    · have hke : k = l.length := by omega
      have HE := Lib.hid (Tide.upTo_all (Tide.back now) l)
      rw [hke] at hq
      have HQ := Lib.hid hq
      have HC := Lib.hid hch
      clear hq hch hke
      go_wp2_with fail
      go_ret
      exact ⟨rfl, by have := HQ.out; rw [HE.out] at this; exact this, HC.out⟩

/-- a round of Put: the last number told, the message laid, the list appended and stored -/
theorem put_round {T : TypeId} {S : Nat → Prop} {w wr w1 : World} {g b cap : Nat} {v : Value} {l : List Tide.Msg} {last x : Int} {m : Tide.Msg} {o : Obj} (hq : QAt T (Tide.Plus S w wr) wr g v l last) (ht : QAt T (Tide.Plus S w wr) (wr.setCell ⟨g, 1, none⟩ (.int .i64 x)) g v l x)
    (hc : Tide.Chg S w wr) (hT : T ≠ 65) (hl : l.length < 200)
    (h1 : w1.ownsRow 0 65 3 (.slice (some ⟨b, 0, none⟩) (l.length + 1) cap) (l.length + 1) (l.flatMap Tide.Msg.enc ++ m.enc)) (hg : ((wr.setCell ⟨g, 1, none⟩ (.int .i64 x)).alloc o).drew.grownBy w1 v.ownBlock)
    (ho : v.ownBlock = some b ∨ b = ((wr.setCell ⟨g, 1, none⟩ (.int .i64 x)).alloc o).drew.heap.size) (hlt : b < w1.heap.size) :
    QAt T (Tide.Plus S w (w1.setCell ⟨g, 0, none⟩ (.slice (some ⟨b, 0, none⟩) (l.length + 1) cap))) (w1.setCell ⟨g, 0, none⟩ (.slice (some ⟨b, 0, none⟩) (l.length + 1) cap)) g (.slice (some ⟨b, 0, none⟩) (l.length + 1) cap) (l ++ [m]) x ∧
    Tide.Chg S w (w1.setCell ⟨g, 0, none⟩ (.slice (some ⟨b, 0, none⟩) (l.length + 1) cap)) := by
  obtain ⟨q1, q2⟩ := (ht.alloc o).drew.appended hT hl h1 hg ho hlt
  have z1 := hc.size
  have z2 : ((wr.setCell ⟨g, 1, none⟩ (.int .i64 x)).alloc o).drew.heap.size = wr.heap.size + 1 := by show ((wr.setCell ⟨g, 1, none⟩ (.int .i64 x)).alloc o).heap.size = _; simp [World.setCell]
  have z3 := q2.size
  refine ⟨q1.mono (fun c hlt hb => ?_) (fun c hb => ?_), ?_⟩
  · rcases hb with hb | hb
    · exact hb.up (by omega)
    · exact .inr ⟨by omega, hlt⟩
  · rcases hb with hb | hb
    · have := hq.lim c (.inl hb); omega
    · exact hb.2
  · have s1 : Tide.Chg (Tide.Plus S w wr) wr ((wr.setCell ⟨g, 1, none⟩ (.int .i64 x)).alloc o).drew := (((Tide.Chg.refl _ wr).put (p := ⟨g, 1, none⟩) (.inl hq.own) _).alloc o).drew
    exact hc.plus (s1.trans q2)
def PutPost (T : TypeId) (S : Nat → Prop) (w : World) (g : Nat) (l : List Tide.Msg) (last n : Int) (e : Ending) (w' : World) : Prop :=
  e = .returned (.tuple #[.int .i64 (Tide.putNum l last n), .int .i64 (Tide.putErr l n)]) ∧ (∃ v', QAt T (Tide.Plus S w w') w' g v' (Tide.putLst l last n) (Tide.putLast l last n)) ∧ Tide.Chg S w w'
theorem QAt.up {T : TypeId} {S : Nat → Prop} {w w0 : World} {g : Nat} {v : Value} {l : List Tide.Msg} {last : Int} (h : QAt T S w g v l last) : QAt T (Tide.Plus S w0 w) w g v l last := h.mono (fun _ _ hb => .inl hb) (fun b hb => by rcases hb with hb | hb; exact h.lim b hb; exact hb.2)

set_option maxRecDepth 100000 in
set_option maxHeartbeats 3200000 in
theorem quePut (S : Nat → Prop) (g : Nat) (v : Value) (l : List Tide.Msg) (last n : Int) (w : World) (h : QAt 147 S w g v l last) (l0 : 0 ≤ last) (l1 : last ≤ 4000000000000000000) :
    Calls Tryz.prog 54 #[.pointer (some ⟨g, 0, none⟩), .int .i64 n] w (PutPost 147 S w g l last n) := by
  obtain ⟨A, cap, rfl, k1, k2, _⟩ := h.row.slice
  have hc : w.cell? ⟨g, 0, none⟩ = some (.slice A l.length cap) := h.head.here rfl
  have hd : w.cell? ⟨g, 1, none⟩ = some (.int .i64 last) := h.head.here rfl
  have hs := h.small
  have HH := Lib.hid h
  clear h k1 k2
  by_cases h0 : n < 1
  · have HF := Lib.hid (show PutPost 147 S w g l last n (.returned (.tuple #[.int .i64 0, .int .i64 1])) w from ⟨by simp [Tide.putNum, Tide.putErr, h0], ⟨_, by simp [Tide.putLst, Tide.putLast, h0]; exact HH.out.up⟩, Tide.Chg.refl _ _⟩)
    go_enter Tryz.func54, Tryz.ntmps54
    go_wp2_with fail
    go_ret2
    exact HF.out
  by_cases h1 : 200 < n + l.length
  · have HF := Lib.hid (show PutPost 147 S w g l last n (.returned (.tuple #[.int .i64 0, .int .i64 6])) w from ⟨by simp [Tide.putNum, Tide.putErr, h0, h1], ⟨_, by simp [Tide.putLst, Tide.putLast, h0, h1]; exact HH.out.up⟩, Tide.Chg.refl _ _⟩)
    have h2 : 200 - (l.length : Int) < n := by omega
    go_enter Tryz.func54, Tryz.ntmps54
    go_wp2_with fail
    go_ret2
    exact HF.out
  obtain ⟨N, rfl⟩ := Int.eq_ofNat_of_zero_le (show 0 ≤ n by omega)
  have hN : N + l.length ≤ 200 := by omega
  have HF : ∀ w', (∃ v', QAt 147 (Tide.Plus S w w') w' g v' (l ++ Tide.newMsgs last N) (last + N)) → Tide.Chg S w w' → PutPost 147 S w g l last (N : Int) (.returned (.tuple #[.int .i64 (last + 1), .int .i64 0])) w' := fun w' ⟨v', hq⟩ hch =>
    ⟨by simp only [Tide.putNum, Tide.putErr, if_neg h0, if_neg h1], ⟨v', by simp only [Tide.putLst, Tide.putLast, if_neg h0, if_neg h1, Int.toNat_natCast]; exact hq⟩, hch⟩
  have HF' := Lib.hid HF
  have h2 : (N : Int) ≤ 200 - (l.length : Int) := by omega
  have h3 : (1 : Int) ≤ (N : Int) := by omega
  obtain ⟨i0, hi, hz0, hz1, hz2⟩ := info_parts info_msg
  clear h0 h1 HF
  go_enter Tryz.func54, Tryz.ntmps54
  go_wp2_with fail
  go_loopw [23] (fun i wr => ∃ (k : Nat) (vk : Value), k ≤ N ∧ i = .int .i64 k ∧ QAt 147 (Tide.Plus S w wr) wr g vk (l ++ Tide.newMsgs last k) (last + k) ∧ Tide.Chg S w wr) (fun i _ => N - (intOf i).toNat)
  case atStart => exact ⟨0, _, by omega, rfl, by simpa [Tide.newMsgs] using HH.out.up, Tide.Chg.refl _ _⟩
  case round =>
    clear hc hd
    obtain ⟨k, vk, hk, rfl, hq, hch⟩ := hrel
    by_cases hlt : k < N
    · have hL : (l ++ Tide.newMsgs last k).length < 200 := by simp [Tide.newMsgs_length]; omega
      have HL := Lib.hid (show l ++ Tide.newMsgs last (k + 1) = (l ++ Tide.newMsgs last k) ++ [⟨last + k + 1, 0, false⟩] by rw [Tide.newMsgs_succ, List.append_assoc, show last + 1 + (k : Int) = last + k + 1 by omega])
      generalize l ++ Tide.newMsgs last k = L at hq hL HL ⊢
      have hc : wr.cell? ⟨g, 0, none⟩ = some vk := hq.head.here rfl
      have hd : wr.cell? ⟨g, 1, none⟩ = some (.int .i64 (last + k)) := hq.head.here rfl
      have f0 := hq.head.soft 0; have f1 := hq.head.soft 1
      have hT := hq.tick (by decide) (last + k + 1)
      have HT := Lib.hid hT
      have HQ := Lib.hid hq
      have HC := Lib.hid hch
      have hm3 : Hid (L.length + 1 ≤ maxLen) := by show _ ≤ _; simp only [maxLen]; omega
      have hm4 : Hid ((L.length + 1) * 24 ≤ 140737488355328) := by show _ ≤ _; omega
      have hLL := Lib.hid hL
      have k0 : (k : Int) < (N : Int) := by omega
      have k1 : (k : Int) ≤ 200 := by omega
      have hgw : g < wr.heap.size := hq.head.inside
      clear hq hch hT hL
      go_wp2_with fail
      go_region_law (refine step_append_lies _ (by rfl) (.tmp 36) (.tmp 42) 63 (by rfl) 0 65 i0 (.agg #[.int .i64 0, .int .i64 0, .bool false]) 3 24 Tryz.underlying63 hi hz0 hz1 hz2 rfl (by decide) vk _ _ rfl (HT.out.alloc _).drew.row.owns ⟨wr.heap.size, 0, none⟩ 1 1 [.int .i64 (last + k + 1), .int .i64 0, .bool false] rfl rfl (Tide.new_cells_at (Tide.size_put wr _ _)) (by simp [Value.oneCell']) (by decide) hm3.out hm4.out (Nat.zero_le _) _ rfl ?_; intro gb cap1 w1 hown1 hg1 hl1 hl2; obtain ⟨c9, f9⟩ := (HT.out.alloc _).drew.behind (by decide) hg1)
      all_goals
        have HR := Lib.hid (put_round (m := ⟨last + k + 1, 0, false⟩) HQ.out HT.out HC.out (by decide) hLL.out hown1 hg1 hl1 hl2)
        clear hown1 hg1 hl1 hl2 c9 f9 hc hd f0 f1
        go_wp2_with fail
        go_roundw
        case rel => exact ⟨k + 1, _, by omega, by go_num, by rw [HL.out, show last + ((k + 1 : Nat) : Int) = last + k + 1 by omega]; exact HR.out.1, HR.out.2⟩
        case measure => simp [intOf]; omega
    · have hke : k = N := by omega
      subst hke
      have HF2 := Lib.hid (HF'.out wr ⟨vk, hq⟩ hch)
      clear hq hch
      go_wp2_with fail
      go_ret2
      exact HF2.out
end Go.Proofs.YtlfaogkdghnmcaaGreat


namespace Go.Proofs.YtlfaogkdghnmcaaGreat
open Go.RowKit
set_option linter.unusedVariables false
theorem que_info : (Tryz.prog.info? 65).map (fun i => (i.zero, i.size, i.bytes)) = some (some (.agg #[.int .i64 0, .int .i64 0, .bool false]), 3, 24) := by kernel_rfl
def que_zero : List Value := [.int .i64 0, .int .i64 0, .bool false]
/-- slices.Delete of one element, at []api.Message -/
theorem que_clear (w : World) (ty : TypeId) (b o c : Nat) (hc : ∀ j, j < 3 → (w.cell? ⟨b, o + j, none⟩).isSome = true) (hf : ∀ j, j < 3 → w.frozen? ⟨b, o + j, none⟩ = false) :
    (Builtin.clear_ #[63] ty #[.slice (some ⟨b, o, none⟩) 1 c]).run Tryz.prog w = .ok (.tuple #[]) (w.setCells b o que_zero) := by
  have hv : ∀ w, (zeroValue 65).run Tryz.prog w = .ok (.agg #[.int .i64 0, .int .i64 0, .bool false]) w := fun w => by kernel_rfl
  have hst := run_storeCells_cells (P := Tryz.prog) b o que_zero 0 w (by simpa [que_zero] using hc) (by simpa [que_zero] using hf) (by simp [que_zero, Value.oneCell'])
  simp only [Nat.add_zero] at hst
  have hzc : (Builtin.zeroCells (Value.agg #[.int .i64 0, .int .i64 0, .bool false]).cells 1).toList = que_zero := by kernel_rfl
  simp [Builtin.clear_, run_underlying Tryz.underlying63, hv, hzc, hst]

set_option maxRecDepth 100000 in
set_option maxHeartbeats 4000000 in
theorem que_delete (S : Nat → Prop) (w : World) (b cap n i : Nat) (xs : List Value) (h : Tide.OwnRow S w 65 3 (.slice (some ⟨b, 0, none⟩) n cap) n xs) (hi : i < n) (h1 : ∀ u ∈ xs, u.oneCell' = true) :
    Calls Tryz.prog 103 #[.slice (some ⟨b, 0, none⟩) n cap, .int .i64 i, .int .i64 ((i : Int) + 1)] w fun e w' => e = .returned (.slice (some ⟨b, 0, none⟩) (n - 1) cap) ∧
      Tide.OwnRow S w' 65 3 (.slice (some ⟨b, 0, none⟩) (n - 1) cap) (n - 1) (xs.take (i * 3) ++ xs.drop ((i + 1) * 3)) ∧ Tide.Chg (fun x => x = b) w w' := by
  obtain ⟨b', cap', e, hS, hcap, hmax, hrow⟩ := h.form (by omega)
  cases e
  have hlen := h.1
  obtain ⟨news, hnews⟩ : ∃ news, news = xs.drop ((i + 1) * 3) := ⟨_, rfl⟩
  have hnl : news.length = (n - (i + 1)) * 3 := by rw [hnews, List.length_drop, hlen]; omega
  obtain ⟨A, hA, hsrc⟩ : ∃ A : Addr, (if cap = i + 1 then some (⟨b, 0, none⟩ : Addr) else some ⟨b, (i + 1) * 3, none⟩) = some A ∧ Hid (∀ t u, news[t]? = some u → w.drew.cell? (A.add t) = some u) := by
    by_cases hc : cap = i + 1
    · refine ⟨⟨b, 0, none⟩, by simp [hc], fun t u hu => ?_⟩
      have h0 : news.length = 0 := by rw [hnl]; omega
      rw [List.length_eq_zero_iff.1 h0] at hu
      simp at hu
    · refine ⟨⟨b, (i + 1) * 3, none⟩, by simp [hc], fun t u hu => ?_⟩
      rw [hnews, List.getElem?_drop] at hu
      rw [Addr.add_lit]
      exact hrow.cell hu
  have s2 : Hid (∀ u ∈ news, u.oneCell' = true) := fun u hu => h1 u (List.mem_of_mem_drop (by rw [hnews] at hu; exact hu))
  have s3 : Hid (∀ t, t < news.length → (w.drew.cell? ⟨b, 0 + i * 3 + t, none⟩).isSome = true ∧ w.drew.frozen? ⟨b, 0 + i * 3 + t, none⟩ = false) := by
    intro t ht
    rw [hnl] at ht
    have hlt : 0 + i * 3 + t < xs.length := by rw [hlen]; omega
    exact ⟨by show (w.cell? _).isSome = true; rw [hrow.cell (List.getElem?_eq_getElem hlt)]; rfl, hrow.soft _⟩
  obtain ⟨W1, hW1⟩ : ∃ W1, W1 = w.drew.setCells b (0 + i * 3) news := ⟨_, rfl⟩
  have hR1 : Tide.RowIn W1 b 65 (cap * 3) (xs.take (0 + i * 3) ++ news ++ xs.drop (0 + i * 3 + news.length)) := by
    rw [hW1]; exact Tide.RowIn.puts news _ hrow.drew (by rw [hlen, hnl]; omega)
  have hch1 : Tide.Chg (fun x => x = b) w W1 := by rw [hW1]; exact Tide.Chg.puts (S := fun x => x = b) (.inl rfl) _ _ (Tide.Chg.refl _ w).drew
  have hl1 : (xs.take (0 + i * 3) ++ news ++ xs.drop (0 + i * 3 + news.length)).length = n * 3 := by simp [hnl, hlen]; omega
  have hcl : ∀ ty c, (Builtin.clear_ #[63] ty #[.slice (some ⟨b, (i + (n - (i + 1))) * 3, none⟩) (n - (i + (n - (i + 1)))) c]).run Tryz.prog W1 = .ok (.tuple #[]) (W1.setCells b ((n - 1) * 3) que_zero) := by
    rw [show i + (n - (i + 1)) = n - 1 by omega, show n - (n - 1) = 1 by omega]
    exact fun ty c => que_clear W1 ty b _ _ (fun t ht => by
      rw [hR1.cell (List.getElem?_eq_getElem (show (n - 1) * 3 + t < _ by rw [hl1]; omega))]; rfl) (fun t ht => hR1.soft _)
  have hfin : Tide.OwnRow S (W1.setCells b ((n - 1) * 3) que_zero) 65 3 (.slice (some ⟨b, 0, none⟩) (n - 1) cap) (n - 1) (xs.take (i * 3) ++ xs.drop ((i + 1) * 3)) := by
    have hR2 := (Tide.RowIn.puts que_zero ((n - 1) * 3) hR1 (by rw [hl1]; simp [que_zero]; omega)).fewer ((n - 1) * 3)
    have e : (List.take ((n - 1) * 3) (xs.take (0 + i * 3) ++ news ++ xs.drop (0 + i * 3 + news.length)) ++ que_zero ++ List.drop ((n - 1) * 3 + que_zero.length) (xs.take (0 + i * 3) ++ news ++ xs.drop (0 + i * 3 + news.length))).take ((n - 1) * 3) = xs.take (i * 3) ++ xs.drop ((i + 1) * 3) := by
      have e1 : (xs.take (0 + i * 3) ++ news).length = (n - 1) * 3 := by simp [hnl, hlen]; omega
      rw [List.append_assoc, List.take_append_of_le_length (by rw [List.length_take, hl1]; omega), List.take_take, Nat.min_self, List.take_append_of_le_length (by omega), List.take_of_length_le (by omega), Nat.zero_add, hnews]
    rw [e] at hR2
    refine ⟨by simp [hlen]; omega, .inr ⟨b, cap, rfl, hS, by omega, hmax, hR2⟩⟩
  have hch2 : Tide.Chg (fun x => x = b) w (W1.setCells b ((n - 1) * 3) que_zero) := Tide.Chg.puts (S := fun x => x = b) (.inl rfl) _ _ hch1
  have HF := Lib.hid hfin; have HC := Lib.hid hch2; have HW := Lib.hid hW1
  have q1 : i ≤ cap := by omega
  have q2 : i + 1 ≤ cap := by omega
  have q3 : (i : Int) + 1 ≤ (n : Int) := by omega
  have q6 : (0 : Int) ≤ (i : Int) + 1 := by omega
  have q4 : n ≤ cap := hcap
  have q5 : cap ≤ 9223372036854775807 := hmax
  have hsl := Lib.hid hnl
  have hn1 := Lib.hid (show i + (n - (i + 1)) = n - 1 by omega)
  have HA := Lib.hid hA
  obtain ⟨i0, hi0, hz0, hz1, hz2⟩ := info_parts que_info
  clear h hrow hlen hnews hnl hR1 hl1 hch1 hch2 hfin hW1 h1 hcap hmax
  go_enter Tryz.func103, Tryz.ntmps103
  go_wp2_with fail
  clear hA
  go_region_law (refine step_append_room (by rfl) (.tmp 22) (.tmp 25) 63 (by rfl) 65 i0 3 Tryz.underlying63 hi0 hz1 b 0 i cap (by simp [Act.eval, Act.put]) A (n - (i + 1)) (cap - (i + 1)) news (by simp [Act.eval, Act.put, HA.out]) hsl.out hsrc.out s2.out (by omega) s3.out ?_; rw [← HW.out])
  go_wp2_with fail
  all_goals
    go_ret
    have hf := HF.out
    by_cases hcc : cap = i + 1
    · rw [hcc] at hf
      first | exact ⟨(by rw [hn1.out] <;> rfl), hf, HC.out⟩ | exact absurd hcc ‹_›
    · first | exact ⟨(by rw [hn1.out] <;> rfl), hf, HC.out⟩ | exact absurd ‹cap = i + 1› hcc
/-- slices.Clone at []api.Message -/
def que_ClonePost (w : World) (n : Nat) (xs : List Value) (e : Ending) (w' : World) : Prop := ∃ v', e = .returned v' ∧ Tide.OwnRow (fun b => w.heap.size ≤ b) w' 65 3 v' n xs ∧ Below w.heap.size w w'
set_option maxRecDepth 100000 in
set_option maxHeartbeats 4000000 in
theorem que_clone (S : Nat → Prop) (w : World) (v : Value) (n : Nat) (xs : List Value) (h : Tide.OwnRow S w 65 3 v n xs) (hn : n ≤ 100000000) (h1 : ∀ u ∈ xs, u.oneCell' = true) :
    Calls Tryz.prog 113 #[v] w (que_ClonePost w n xs) := by
  have heq := @Lib.run_eql_slice_nil Tryz.prog
  rcases h.2 with ⟨rfl, rfl⟩ | ⟨g, cap, rfl, hS, hcap, hmax, hrow⟩
  · have hx : xs = [] := List.length_eq_zero_iff.1 (h.1.trans (Nat.zero_mul _))
    have HF := Lib.hid (show que_ClonePost w 0 xs (.returned (.slice none 0 0)) w from ⟨_, rfl, by rw [hx]; exact Tide.OwnRow.nil _ _ _ _, Below.refl _ _⟩)
    have hq := fun w => Lib.run_eql_slice_nil (P := Tryz.prog) w 63 65 none 0 0 0 0 Tryz.underlying63
    clear h hx heq
    go_enter Tryz.func113, Tryz.ntmps113
    go_wp2_with fail
    go_ret
    exact HF.out
  · have hq := fun w => Lib.run_eql_slice_nil (P := Tryz.prog) w 63 65 (some ⟨g, 0, none⟩) n cap 0 0 Tryz.underlying63
    have hlen := h.1
    obtain ⟨i0, hi0, hz0, hz1, hz2⟩ := info_parts que_info
    have HR := Lib.hid hrow; have H1 := Lib.hid h1; have HL := Lib.hid hlen
    have hown : (w.alloc (.cells #[] 65)).ownsRow w.heap.size 65 3 (.slice (some ⟨w.heap.size, 0, none⟩) 0 0) 0 [] := World.ownsRow_made w #[] 0 (Nat.le_refl _) (Nat.zero_le _) rfl
    have HO := Lib.hid hown
    have hm3 := Lib.hid (show 0 + n ≤ maxLen by simp only [maxLen]; omega)
    have hm4 := Lib.hid (show (0 + n) * 24 ≤ 140737488355328 by omega)
    clear h hrow h1 hlen hown hcap hmax hn heq
    go_enter Tryz.func113, Tryz.ntmps113
    go_wp2_with (at_builtin; refine wpList_append_own _ (by rfl) (.tmp 5) (.tmp 6) 63 (by rfl) w.heap.size 65 i0 (.agg #[.int .i64 0, .int .i64 0, .bool false]) 3 24 Tryz.underlying63 hi0 hz0 hz1 hz2 rfl (by decide) _ _ _ rfl HO.out ⟨g, 0, none⟩ n cap xs rfl HL.out ?c1 H1.out hm3.out hm4.out ?c5 ?_)
    case c1 => exact fun j u hu => by rw [Addr.add_lit, Nat.zero_add]; exact (HR.out.alloc _).cell hu
    case c5 => simp
    intro v' w1 hown1 hg1 _
    have HF := Lib.hid (show que_ClonePost w n xs (.returned v') w1 from by
      refine ⟨v', rfl, ?_, (((Below.refl _ w).alloc (Nat.le_refl _) _)).grown hg1 (by simp) (fun k hk => by simp [Value.ownBlock] at hk; omega)⟩
      exact Tide.OwnRow.of_owns hown1 (Tide.own_ge hown1))
    clear hown1 hg1
    go_wp2_with fail
    go_ret
    exact HF.out
/- slices.IndexFunc at []api.Message, the function (*queue.Queue).Lease$1 -/
set_option maxRecDepth 100000 in
set_option maxHeartbeats 4000000 in
theorem queL_index  (p : Tide.Msg → Bool) (l : List Tide.Msg) (v : Value) (w : World) (hv : Tide.ListIn w 3 Tide.Msg.enc v l) (hlen : l.length ≤ 100000000)
    (hp : ∀ (m : Tide.Msg) (W : World), Below w.heap.size w W → Calls Tryz.prog 101 #[.agg #[.int .i64 m.id, .int .i64 m.till, .bool m.taken]] W fun e W' => e = .returned (.bool (p m)) ∧ Below W.heap.size W W') :
    Calls Tryz.prog 100 #[v, .func (.func 101) #[] #[]] w fun e w' => e = .returned (.int .i64 (Tide.idxOf (Tide.firstAt p l))) ∧ Below w.heap.size w w' := by
  obtain ⟨A, cap, rfl, hA⟩ := hv
  have HA := Lib.hid hA; have HP := Lib.hid hp
  clear hA hp
  go_enter Tryz.func100, Tryz.ntmps100
  go_wp2_with fail
  go_loopw [8] (fun i wr => ∃ k : Nat, k ≤ l.length ∧ i = .int .i64 k ∧ Hid (∀ (t : Nat) (b : Tide.Msg), t < k → l[t]? = some b → p b = false) ∧ Below w.heap.size w wr) (fun i _ => l.length - (intOf i).toNat)
  case atStart => exact ⟨0, by omega, rfl, fun t b ht => by omega, Below.refl _ _⟩
  case round =>
    obtain ⟨k, hk, rfl, hno, hb⟩ := hrel
    by_cases hlt : k < l.length
    · obtain ⟨m, hm⟩ := Tide.get_some l hlt
      obtain ⟨b, off, rfl, hbl, hc⟩ := HA.out (by omega)
      have cl : ∀ (j : Nat) (u : Value), m.enc[j]? = some u → wr.cell? ⟨b, off + k * 3 + j, none⟩ = some u := fun j u hu => (hb.cell (p := ⟨b, off + k * 3 + j, none⟩) hbl).trans (hc k m j u hm hu)
      have c0 : wr.cell? ⟨b, off + k * 3, none⟩ = _ := cl 0 _ rfl
      have c1 := cl 1 _ rfl; have c2 := cl 2 _ rfl
      have i0 : (0 : Int) ≤ (k : Int) := by omega
      have i1 : (k : Int) < (l.length : Int) := by omega
      have HM := Lib.hid hm
      clear hc cl hm
      go_wp2_with fail
      refine (HP.out m _ hb).mono ?_
      rintro e w1 ⟨rfl, hb1⟩
      have HB := Lib.hid (hb.trans (hb1.mono hb.size))
      cases hpm : p m
      · have HN := Lib.hid (show ∀ (t : Nat) (b : Tide.Msg), t < k + 1 → l[t]? = some b → p b = false from fun t b ht hb => by
          rcases Nat.lt_succ_iff_lt_or_eq.mp ht with h | h
          · exact hno.out t b h hb
          · subst h; rw [HM.out] at hb; cases hb; exact hpm)
        clear hb hb1 hno hpm
        go_wp2_with fail
        go_roundw
        case rel => exact ⟨k + 1, by omega, by go_num, HN, HB.out⟩
        case measure => simp [intOf]; omega
      · have HN := Lib.hid (Tide.firstAt_some hno.out HM.out hpm)
        clear hb hb1 hno hpm
        go_wp2_with fail
        go_ret
        exact ⟨by rw [HN.out]; rfl, HB.out⟩
    · have hke : k = l.length := by omega
      have HN := Lib.hid (Tide.firstAt_none (p := p) (l := l) (fun t b hb => hno.out t b (by rw [hke]; exact Tide.get_lt hb) hb))
      have HB := Lib.hid hb
      clear hb hno hke
      go_wp2_with fail
      go_ret
      exact ⟨by rw [HN.out]; rfl, HB.out⟩
/- slices.IndexFunc at []api.Message, the function (*queue.Queue).Ack$1 -/
set_option maxRecDepth 100000 in
set_option maxHeartbeats 4000000 in
theorem queA_index (B : Nat) (p : Tide.Msg → Bool) (l : List Tide.Msg) (v : Value) (w : World) (hv : Tide.ListIn w 3 Tide.Msg.enc v l) (hlen : l.length ≤ 100000000)
    (hp : ∀ (m : Tide.Msg) (W : World), Below w.heap.size w W → Calls Tryz.prog 102 #[.agg #[.int .i64 m.id, .int .i64 m.till, .bool m.taken], .pointer (some ⟨B, 0, none⟩)] W fun e W' => e = .returned (.bool (p m)) ∧ Below W.heap.size W W') :
    Calls Tryz.prog 100 #[v, .func (.func 102) #[] #[.pointer (some ⟨B, 0, none⟩)]] w fun e w' => e = .returned (.int .i64 (Tide.idxOf (Tide.firstAt p l))) ∧ Below w.heap.size w w' := by
  obtain ⟨A, cap, rfl, hA⟩ := hv
  have HA := Lib.hid hA; have HP := Lib.hid hp
  clear hA hp
  go_enter Tryz.func100, Tryz.ntmps100
  go_wp2_with fail
  go_loopw [8] (fun i wr => ∃ k : Nat, k ≤ l.length ∧ i = .int .i64 k ∧ Hid (∀ (t : Nat) (b : Tide.Msg), t < k → l[t]? = some b → p b = false) ∧ Below w.heap.size w wr) (fun i _ => l.length - (intOf i).toNat)
  case atStart => exact ⟨0, by omega, rfl, fun t b ht => by omega, Below.refl _ _⟩
  case round =>
    obtain ⟨k, hk, rfl, hno, hb⟩ := hrel
    by_cases hlt : k < l.length
    · obtain ⟨m, hm⟩ := Tide.get_some l hlt
      obtain ⟨b, off, rfl, hbl, hc⟩ := HA.out (by omega)
      have cl : ∀ (j : Nat) (u : Value), m.enc[j]? = some u → wr.cell? ⟨b, off + k * 3 + j, none⟩ = some u := fun j u hu => (hb.cell (p := ⟨b, off + k * 3 + j, none⟩) hbl).trans (hc k m j u hm hu)
      have c0 : wr.cell? ⟨b, off + k * 3, none⟩ = _ := cl 0 _ rfl
      have c1 := cl 1 _ rfl; have c2 := cl 2 _ rfl
      have i0 : (0 : Int) ≤ (k : Int) := by omega
      have i1 : (k : Int) < (l.length : Int) := by omega
      have HM := Lib.hid hm
      clear hc cl hm
      go_wp2_with fail
      refine (HP.out m _ hb).mono ?_
      rintro e w1 ⟨rfl, hb1⟩
      have HB := Lib.hid (hb.trans (hb1.mono hb.size))
      cases hpm : p m
      · have HN := Lib.hid (show ∀ (t : Nat) (b : Tide.Msg), t < k + 1 → l[t]? = some b → p b = false from fun t b ht hb => by
          rcases Nat.lt_succ_iff_lt_or_eq.mp ht with h | h
          · exact hno.out t b h hb
          · subst h; rw [HM.out] at hb; cases hb; exact hpm)
        clear hb hb1 hno hpm
        go_wp2_with fail
        go_roundw
        case rel => exact ⟨k + 1, by omega, by go_num, HN, HB.out⟩
        case measure => simp [intOf]; omega
      · have HN := Lib.hid (Tide.firstAt_some hno.out HM.out hpm)
        clear hb hb1 hno hpm
        go_wp2_with fail
        go_ret
        exact ⟨by rw [HN.out]; rfl, HB.out⟩
    · have hke : k = l.length := by omega
      have HN := Lib.hid (Tide.firstAt_none (p := p) (l := l) (fun t b hb => hno.out t b (by rw [hke]; exact Tide.get_lt hb) hb))
      have HB := Lib.hid hb
      clear hb hno hke
      go_wp2_with fail
      go_ret
      exact ⟨by rw [HN.out]; rfl, HB.out⟩
set_option maxHeartbeats 400000 in
theorem queFree (m : Tide.Msg) (W : World) : Calls Tryz.prog 101 #[.agg #[.int .i64 m.id, .int .i64 m.till, .bool m.taken]] W fun e W' => e = .returned (.bool (Tide.free m)) ∧ Below W.heap.size W W' := by
  go_enter Tryz.func101, Tryz.ntmps101
  go_wp2_with fail
  go_ret
  exact ⟨rfl, (Below.refl _ _).alloc (Nat.le_refl _) _⟩
set_option maxHeartbeats 400000 in
theorem queIs (id : Int) (B : Nat) (m : Tide.Msg) (W : World) (h : W.cell? ⟨B, 0, none⟩ = some (.int .i64 id)) : Calls Tryz.prog 102 #[.agg #[.int .i64 m.id, .int .i64 m.till, .bool m.taken], .pointer (some ⟨B, 0, none⟩)] W fun e W' => e = .returned (.bool (Tide.isId id m)) ∧ Below W.heap.size W W' := by
  have hB := World.block_lt_of_cell? W _ h
  simp only at hB
  go_enter Tryz.func102, Tryz.ntmps102
  go_wp2_with fail
  go_ret
  exact ⟨rfl, (Below.refl _ _).alloc (Nat.le_refl _) _⟩
end Go.Proofs.YtlfaogkdghnmcaaGreat


namespace Go.Proofs.YtlfaogkdghnmcaaGreat
open Go.RowKit
set_option linter.unusedVariables false

/-- the two cells, stored the other way round -/
theorem QAt.put2r {T : TypeId} {S : Nat → Prop} {w : World} {g b cap n : Nat} {l : List Tide.Msg} {last : Int} (h : QAt T S w g (.slice (some ⟨b, 0, none⟩) n cap) l last) (hT : T ≠ 65) {k : Nat} {m : Tide.Msg} (hk : l[k]? = some m) (t : Int) (x : Bool) :
    QAt T S ((w.setCell ⟨b, k * 3 + 1, none⟩ (.int .i64 t)).setCell ⟨b, k * 3 + 2, none⟩ (.bool x)) g (.slice (some ⟨b, 0, none⟩) n cap) (l.set k ⟨m.id, t, x⟩) last ∧ Tide.Chg S w ((w.setCell ⟨b, k * 3 + 1, none⟩ (.int .i64 t)).setCell ⟨b, k * 3 + 2, none⟩ (.bool x)) := by
  have hkl := Tide.get_lt hk
  obtain ⟨b', cap', e, hS, h1, h2, h3⟩ := h.row.form (by omega)
  cases e
  have hgb : g ≠ b := (h3.apartAt h.head (Ne.symm hT)).symm
  have hr := h.row
  have f1 := Tide.flat_lt Tide.Msg.enc_length hkl (show 1 < 3 by omega)
  have f2 := Tide.flat_lt Tide.Msg.enc_length hkl (show 2 < 3 by omega)
  refine ⟨⟨(h.head.other (p := ⟨b, k * 3 + 1, none⟩) hgb _).other (p := ⟨b, k * 3 + 2, none⟩) hgb _, ?_, h.own, by rw [List.length_set]; exact h.small, fun b hb => by rw [Tide.size_put, Tide.size_put]; exact h.lim b hb⟩, ((Tide.Chg.refl S w).put (p := ⟨b, k * 3 + 1, none⟩) (.inl hS) _).put (p := ⟨b, k * 3 + 2, none⟩) (.inl hS) _⟩
  have p1 := (hr.put f1 (.int .i64 t)).put (i := k * 3 + 2) (by rw [List.length_set]; exact f2) (.bool x)
  rw [Tide.flat_set (a' := ⟨m.id, t, m.taken⟩) Tide.Msg.enc_length hk (by omega) rfl, Tide.flat_set (a := ⟨m.id, t, m.taken⟩) (a' := ⟨m.id, t, x⟩) Tide.Msg.enc_length (by simp [hkl]) (by omega) rfl, List.set_set] at p1
  rw [List.length_set]
  exact p1

def LeasePost (T : TypeId) (S : Nat → Prop) (w : World) (g : Nat) (v : Value) (l : List Tide.Msg) (last now ticks : Int) (e : Ending) (w' : World) : Prop :=
  e = .returned (.tuple #[.int .i64 (Tide.leaseNum l now ticks), .int .i64 (Tide.leaseErr l now ticks)]) ∧ QAt T S w' g v (Tide.leaseLst l now ticks) last ∧ Tide.Chg S w w'
theorem lease_no {T : TypeId} {S : Nat → Prop} {w w' : World} {g : Nat} {v : Value} {l : List Tide.Msg} {last now ticks : Int} (h : QAt T S w' g v l last) (hc : Tide.Chg S w w') (hn : Tide.leaseOk now ticks = false) : LeasePost T S w g v l last now ticks (.returned (.tuple #[.int .i64 0, .int .i64 1])) w' := by
  refine ⟨by simp [Tide.leaseNum, Tide.leaseErr, hn], ?_, hc⟩
  simp only [Tide.leaseLst, hn, Bool.false_eq_true, if_false]; exact h
theorem modify_at {α : Type} {l : List α} {i : Nat} {a : α} {f : α → α} (h : l[i]? = some a) : l.modify i f = l.set i (f a) := by
  apply List.ext_getElem?
  intro j
  rw [List.getElem?_modify, List.getElem?_set]
  by_cases hj : i = j
  · subst hj; rw [h]; simp [Tide.get_lt h]
  · simp [hj]
theorem backAll_get {l : List Tide.Msg} {now : Int} {i : Nat} {m : Tide.Msg} (h : (Tide.backAll now l)[i]? = some m) : ∃ m0, l[i]? = some m0 ∧ m = Tide.back now m0 := by
  unfold Tide.backAll at h
  rw [List.getElem?_map] at h
  cases h0 : l[i]? with
  | none => rw [h0] at h; cases h
  | some m0 => rw [h0] at h; exact ⟨m0, rfl, (Option.some.inj h).symm⟩

set_option maxRecDepth 100000 in
set_option maxHeartbeats 3200000 in
theorem queLease (S : Nat → Prop) (g : Nat) (v : Value) (l : List Tide.Msg) (last now ticks : Int) (w : World) (h : QAt 147 S w g v l last) :
    Calls Tryz.prog 55 #[.pointer (some ⟨g, 0, none⟩), .int .i64 now, .int .i64 ticks] w (LeasePost 147 S w g v l last now ticks) := by
  by_cases h0 : ticks < 1
  · have HF := Lib.hid (lease_no (now := now) (ticks := ticks) h (Tide.Chg.refl _ _) (by unfold Tide.leaseOk; simp; omega))
    clear h
    go_enter Tryz.func55, Tryz.ntmps55
    go_wp2_with fail
    go_ret2
    exact HF.out
  by_cases h1 : 100000 < ticks
  · have HF := Lib.hid (lease_no (now := now) (ticks := ticks) h (Tide.Chg.refl _ _) (by unfold Tide.leaseOk; simp; omega))
    clear h
    go_enter Tryz.func55, Tryz.ntmps55
    go_wp2_with fail
    go_ret2
    exact HF.out
  have t0 : 1 ≤ ticks := by omega
  have t1 : ticks ≤ 100000 := by omega
  have HH := Lib.hid h
  clear h h0 h1
  go_enter Tryz.func55, Tryz.ntmps55
  go_wp2_with fail
  refine (queAt S g v l last now _ HH.out).mono ?_
  rintro e w1 ⟨rfl, h1, c1⟩
  cases hn : Tide.nowOk now
  · rw [show Tide.nowLst l now = l by unfold Tide.nowLst; rw [hn]; rfl] at h1
    have HF := Lib.hid (lease_no (now := now) (ticks := ticks) h1 c1 (by unfold Tide.leaseOk; rw [hn]; simp))
    clear h1 c1 hn
    go_wp2_with fail
    go_ret2
    exact HF.out
  · rw [show Tide.nowLst l now = Tide.backAll now l by unfold Tide.nowLst; rw [hn]; rfl] at h1
    have hnn : 0 ≤ now ∧ now ≤ 1099511627776 := by unfold Tide.nowOk at hn; simpa using hn
    obtain ⟨n0, n1⟩ := hnn
    have hok := Lib.hid (show Tide.leaseOk now ticks = true by unfold Tide.leaseOk; rw [hn]; simp [t0, t1])
    have hcell : w1.cell? ⟨g, 0, none⟩ = some v := h1.head.here rfl
    have H1 := Lib.hid h1; have C1 := Lib.hid c1
    clear h1 c1 hn
    go_wp2_with fail
    refine (queL_index Tide.free (Tide.backAll now l) v _ (H1.out.row.list Tide.Msg.enc_length) (by have := H1.out.small; omega) (fun m W _ => queFree m W)).mono ?_
    rintro e w2 ⟨rfl, hb2⟩
    have H2 := Lib.hid (H1.out.chg (Tide.Chg.of_below (S := fun _ => False) hb2 (Nat.le_refl _)) (fun _ _ h => h))
    have C2 := Lib.hid (C1.out.step_below hb2 C1.out.size)
    clear hb2 hcell
    cases hf : Tide.firstAt Tide.free (Tide.backAll now l)
    · have HF := Lib.hid (show LeasePost 147 S w g v l last now ticks (.returned (.tuple #[.int .i64 0, .int .i64 4])) w2 from ⟨by simp only [Tide.leaseNum, Tide.leaseErr, hok.out, if_true, hf], by simp only [Tide.leaseLst, hok.out, if_true, hf]; exact H2.out, C2.out⟩)
      simp only [Tide.idxOf]
      clear hf
      go_wp2_with fail
      go_ret2
      exact HF.out
    · rename_i i
      obtain ⟨m, hm, hfm, _⟩ := Tide.firstAt_spec hf
      obtain ⟨b, cap, rfl, hS, hgb, k1, k2, c0, c1, c2, f0, f1, f2⟩ := H2.out.msg (by decide) hm
      have hil : i < (Tide.backAll now l).length := Tide.get_lt hm
      have hcg : w2.cell? ⟨g, 0, none⟩ = _ := H2.out.head.here (i := 0) rfl
      have i0 : (0 : Int) ≤ (i : Int) := by omega
      have i1 : (i : Int) < ((Tide.backAll now l).length : Int) := by omega
      have HM := Lib.hid hm; have HFF := Lib.hid hf
      clear hm hf hfm k1 k2
      simp only [Tide.idxOf]
      go_wp2_with fail
      go_region
      all_goals
        have HQ := Lib.hid (H2.out.put2 (by decide) HM.out (now + ticks) true)
        have HF := Lib.hid (show LeasePost 147 S w g (.slice (some ⟨b, 0, none⟩) (Tide.backAll now l).length cap) l last now ticks (.returned (.tuple #[.int .i64 m.id, .int .i64 0])) _ from ⟨by simp [Tide.leaseNum, Tide.leaseErr, hok.out, HFF.out, HM.out], by simp only [Tide.leaseLst, hok.out, if_true, HFF.out]; rw [modify_at HM.out]; exact HQ.out.1.drew, C2.out.trans HQ.out.2.drew⟩)
        go_wp2_with fail
        go_ret2
        exact HF.out

theorem flat_one {l : List Tide.Msg} : ∀ u ∈ l.flatMap Tide.Msg.enc, u.oneCell' = true := by
  intro u hu
  obtain ⟨m, _, hm⟩ := List.mem_flatMap.1 hu
  simp only [Tide.Msg.enc, List.mem_cons, List.not_mem_nil, or_false] at hm
  rcases hm with rfl | rfl | rfl <;> rfl
/-- behind a Delete: the list is cut and stored -/
theorem QAt.cut {T : TypeId} {S : Nat → Prop} {w w3 : World} {g b cap : Nat} {l : List Tide.Msg} {last : Int} (h : QAt T S w g (.slice (some ⟨b, 0, none⟩) l.length cap) l last) (hT : T ≠ 65) {i : Nat} (hi : i < l.length) (hgb : g ≠ b)
    (h3 : Tide.OwnRow S w3 65 3 (.slice (some ⟨b, 0, none⟩) (l.length - 1) cap) (l.length - 1) ((l.flatMap Tide.Msg.enc).take (i * 3) ++ (l.flatMap Tide.Msg.enc).drop ((i + 1) * 3))) (hc : Tide.Chg (fun x => x = b) w w3) :
    w3.cell? ⟨g, 0, none⟩ = some (.slice (some ⟨b, 0, none⟩) l.length cap) ∧ w3.frozen? ⟨g, 0, none⟩ = false ∧
    QAt T S (w3.setCell ⟨g, 0, none⟩ (.slice (some ⟨b, 0, none⟩) (l.length - 1) cap)) g (.slice (some ⟨b, 0, none⟩) (l.length - 1) cap) (l.eraseIdx i) last ∧ Tide.Chg S w (w3.setCell ⟨g, 0, none⟩ (.slice (some ⟨b, 0, none⟩) (l.length - 1) cap)) := by
  obtain ⟨b', cap', e, hS, _⟩ := h.row.form (by omega)
  cases e
  have hd := h.head.chg hc hgb
  have e1 : (l.eraseIdx i).length = l.length - 1 := by rw [List.length_eraseIdx]; simp [hi]
  refine ⟨hd.here rfl, hd.soft 0, ⟨hd.put 0 _, ?_, h.own, by rw [e1]; have := h.small; omega, fun c hc' => by rw [Tide.size_put]; exact Nat.lt_of_lt_of_le (h.lim c hc') hc.size⟩, (hc.mono (fun k _ e => by rw [e]; exact hS)).put (.inl h.own) _⟩
  rw [e1, Tide.flat_erase Tide.Msg.enc_length]
  exact h3.aside (p := ⟨g, 0, none⟩) (fun c hc' => by simp [Value.ownBlock] at hc'; show c ≠ g; omega) _
def AckPost (T : TypeId) (S : Nat → Prop) (w : World) (g : Nat) (l : List Tide.Msg) (last now id : Int) (e : Ending) (w' : World) : Prop :=
  e = .returned (.int .i64 (Tide.ackErr l now id)) ∧ (∃ v', QAt T S w' g v' (Tide.ackLst l now id) last) ∧ Tide.Chg S w w'

set_option maxRecDepth 100000 in
set_option maxHeartbeats 3200000 in
theorem queAck (S : Nat → Prop) (g : Nat) (v : Value) (l : List Tide.Msg) (last now id : Int) (w : World) (h : QAt 147 S w g v l last) :
    Calls Tryz.prog 56 #[.pointer (some ⟨g, 0, none⟩), .int .i64 now, .int .i64 id] w (AckPost 147 S w g l last now id) := by
  have HH := Lib.hid h
  have hgw : g < w.heap.size := h.head.inside
  clear h
  go_enter Tryz.func56, Tryz.ntmps56
  go_wp2_with fail
  refine (queAt S g v l last now _ (HH.out.alloc _)).mono ?_
  rintro e w1 ⟨rfl, h1, c1⟩
  have hbx : w1.cell? ⟨w.heap.size, 0, none⟩ = some (.int .i64 id) := by
    exact ((Tide.At.made w _ _).chg c1 (fun hS => absurd (HH.out.lim _ hS) (Nat.lt_irrefl _))).here rfl
  cases hn : Tide.nowOk now
  · rw [show Tide.nowLst l now = l by unfold Tide.nowLst; rw [hn]; rfl] at h1
    have HF := Lib.hid (show AckPost 147 S w g l last now id (.returned (.int .i64 1)) w1 from ⟨by simp [Tide.ackErr, hn], ⟨v, by simp only [Tide.ackLst, hn, Bool.false_eq_true, if_false]; exact h1⟩, ((Tide.Chg.refl S w).alloc _).trans c1⟩)
    clear h1 c1 hn
    go_wp2_with fail
    go_ret
    exact HF.out
  · rw [show Tide.nowLst l now = Tide.backAll now l by unfold Tide.nowLst; rw [hn]; rfl] at h1
    have hcell : w1.cell? ⟨g, 0, none⟩ = some v := h1.head.here rfl
    have H1 := Lib.hid h1; have C1 := Lib.hid (((Tide.Chg.refl S w).alloc _).trans c1); have HN := Lib.hid hn; have HBX := Lib.hid hbx
    clear h1 c1 hn
    go_wp2_with fail
    refine (queA_index w.heap.size (Tide.isId id) (Tide.backAll now l) v _ (H1.out.row.list Tide.Msg.enc_length) (by have := H1.out.small; omega) (fun m W hW => queIs id _ m W ((hW.cell (World.block_lt_of_cell? w1 _ HBX.out)).trans HBX.out))).mono ?_
    rintro e w2 ⟨rfl, hb2⟩
    have H2 := Lib.hid (H1.out.chg (Tide.Chg.of_below (S := fun _ => False) hb2 (Nat.le_refl _)) (fun _ _ h => h))
    have C2 := Lib.hid (C1.out.step_below hb2 C1.out.size)
    clear hb2 hcell hbx
    cases hf : Tide.firstAt (Tide.isId id) (Tide.backAll now l)
    · have HF := Lib.hid (show AckPost 147 S w g l last now id (.returned (.int .i64 4)) w2 from ⟨by simp only [Tide.ackErr, HN.out, if_true, hf], ⟨v, by simp only [Tide.ackLst, HN.out, if_true, hf]; exact H2.out⟩, C2.out⟩)
      simp only [Tide.idxOf]
      clear hf
      go_wp2_with fail
      go_ret
      exact HF.out
    · rename_i i
      obtain ⟨m, hm, hfm, _⟩ := Tide.firstAt_spec hf
      obtain ⟨b, cap, rfl, hS, hgb, k1, k2, c0, c1, c2, f0, f1, f2⟩ := H2.out.msg (by decide) hm
      have hil : i < (Tide.backAll now l).length := Tide.get_lt hm
      have hcg : w2.cell? ⟨g, 0, none⟩ = some (.slice (some ⟨b, 0, none⟩) (Tide.backAll now l).length cap) := H2.out.head.here (i := 0) rfl
      have i0 : (0 : Int) ≤ (i : Int) := by omega
      have i1 : (i : Int) < ((Tide.backAll now l).length : Int) := by omega
      have HM := Lib.hid hm; have HFF := Lib.hid hf
      clear hm hf hfm k1 k2
      simp only [Tide.idxOf]
      cases ht : m.taken
      · have HF := Lib.hid (show AckPost 147 S w g l last now id (.returned (.int .i64 7)) w2 from ⟨by simp [Tide.ackErr, HN.out, HFF.out, HM.out, ht], ⟨_, by simp only [Tide.ackLst, HN.out, if_true, HFF.out, HM.out, ht, Bool.false_eq_true, if_false]; exact H2.out⟩, C2.out⟩)
        rw [ht] at c2
        clear ht
        go_wp2_with fail
        go_ret
        exact HF.out
      · rw [ht] at c2
        have HT := Lib.hid ht
        have hs := H2.out.small
        clear ht
        go_wp2_with fail
        refine (que_delete S _ b cap _ i _ H2.out.row hil flat_one).mono ?_
        rintro e w3 ⟨rfl, h3, c3⟩
        obtain ⟨q0, q1, q2⟩ := H2.out.cut (by decide) hil hgb h3 c3
        have HF := Lib.hid (show AckPost 147 S w g l last now id (.returned (.int .i64 0)) _ from ⟨by simp [Tide.ackErr, HN.out, HFF.out, HM.out, HT.out], ⟨_, by simp only [Tide.ackLst, HN.out, if_true, HFF.out, HM.out, HT.out]; exact q2.1⟩, C2.out.trans q2.2⟩)
        clear h3 c3 q2
        go_wp2_with fail
        go_ret
        exact HF.out

def AllPost (T : TypeId) (S : Nat → Prop) (w : World) (g : Nat) (v : Value) (l : List Tide.Msg) (last now : Int) (e : Ending) (w' : World) : Prop :=
  (∃ v', e = .returned (.tuple #[v', .int .i64 (Tide.nowErr now)]) ∧ Tide.OwnRow (fun b => w.heap.size ≤ b) w' 65 3 v' (Tide.allLst l now).length ((Tide.allLst l now).flatMap Tide.Msg.enc)) ∧ QAt T S w' g v (Tide.nowLst l now) last ∧ Tide.Chg S w w'
set_option maxRecDepth 100000 in
set_option maxHeartbeats 3200000 in
theorem queAll (S : Nat → Prop) (g : Nat) (v : Value) (l : List Tide.Msg) (last now : Int) (w : World) (h : QAt 147 S w g v l last) :
    Calls Tryz.prog 68 #[.pointer (some ⟨g, 0, none⟩), .int .i64 now] w (AllPost 147 S w g v l last now) := by
  have HH := Lib.hid h
  clear h
  go_enter Tryz.func68, Tryz.ntmps68
  go_wp2_with fail
  refine (queAt S g v l last now _ HH.out).mono ?_
  rintro e w1 ⟨rfl, h1, c1⟩
  cases hn : Tide.nowOk now
  · have HF := Lib.hid (show AllPost 147 S w g v l last now (.returned (.tuple #[.slice none 0 0, .int .i64 1])) w1 from ⟨⟨.slice none 0 0, by simp [Tide.nowErr, hn], by simp only [Tide.allLst, hn, Bool.false_eq_true, if_false]; exact Tide.OwnRow.nil _ _ _ _⟩, h1, c1⟩)
    clear h1 c1 hn
    go_wp2_with fail
    go_ret2
    exact HF.out
  · have hcell : w1.cell? ⟨g, 0, none⟩ = some v := h1.head.here rfl
    have hl : Tide.nowLst l now = Tide.allLst l now := by simp [Tide.nowLst, Tide.allLst, hn]
    have H1 := Lib.hid h1; have C1 := Lib.hid c1; have HN := Lib.hid hn; have HL := Lib.hid hl
    clear h1 c1 hn hl
    go_wp2_with fail
    refine (que_clone S _ v _ _ H1.out.row (by have := H1.out.small; omega) flat_one).mono ?_
    rintro e w2 ⟨v', rfl, h2, hb2⟩
    have HF := Lib.hid (show AllPost 147 S w g v l last now (.returned (.tuple #[v', .int .i64 0])) w2 from ⟨⟨v', by simp [Tide.nowErr, HN.out], by rw [← HL.out]; exact h2.mono (fun b _ hb => Nat.le_trans C1.out.size hb)⟩, H1.out.chg (Tide.Chg.of_below (S := fun _ => False) hb2 (Nat.le_refl _)) (fun _ _ h => h), C1.out.step_below hb2 C1.out.size⟩)
    clear h2 hb2 hcell
    go_wp2_with fail
    go_ret2
    exact HF.out

set_option maxRecDepth 100000 in
set_option maxHeartbeats 3200000 in
theorem queDepth (S : Nat → Prop) (g : Nat) (v : Value) (l : List Tide.Msg) (last now : Int) (w : World) (h : QAt 147 S w g v l last) :
    Calls Tryz.prog 161 #[.pointer (some ⟨g, 0, none⟩), .int .i64 now] w fun e w' => e = .returned (.tuple #[.int .i64 (Tide.depthNum l now), .int .i64 (Tide.nowErr now)]) ∧ QAt 147 S w' g v (Tide.nowLst l now) last ∧ Tide.Chg S w w' := by
  have HH := Lib.hid h
  clear h
  go_enter Tryz.func161, Tryz.ntmps161
  go_wp2_with fail
  refine (queAt S g v l last now _ HH.out).mono ?_
  rintro e w1 ⟨rfl, h1, c1⟩
  cases hn : Tide.nowOk now
  · have H1 := Lib.hid h1; have C1 := Lib.hid c1; have HN := Lib.hid hn
    clear h1 c1 hn
    go_wp2_with fail
    go_ret2
    exact ⟨by simp [Tide.depthNum, Tide.nowErr, HN.out], H1.out, C1.out⟩
  · have hfin := Lib.hid (show Tide.depthNum l now = (((Tide.nowLst l now).countP Tide.free : Nat) : Int) ∧ Tide.nowErr now = 0 by simp [Tide.depthNum, Tide.nowErr, Tide.nowLst, hn])
    obtain ⟨L, hL⟩ : ∃ L, Tide.nowLst l now = L := ⟨_, rfl⟩
    rw [hL] at h1 hfin
    have HL := Lib.hid hL
    clear hL
    obtain ⟨A, cap, rfl, _, _, _⟩ := h1.row.slice
    have hcell : w1.cell? ⟨g, 0, none⟩ = some (.slice A L.length cap) := h1.head.here rfl
    have hs := h1.small
    have H1 := Lib.hid h1; have C1 := Lib.hid c1
    clear h1 c1 hn
    go_wp2_with fail
    go_loopw [6, 18] (fun n i wr => ∃ k : Nat, k ≤ L.length ∧ i = .int .i64 k ∧ n = .int .i64 (((L.take k).countP Tide.free : Nat) : Int) ∧ Below w1.heap.size w1 wr) (fun _ i _ => L.length - (intOf i).toNat)
    case atStart => exact ⟨0, by omega, rfl, by simp, Below.refl _ _⟩
    case round =>
      clear hcell
      obtain ⟨k, hk, rfl, rfl, hb⟩ := hrel
      by_cases hlt : k < L.length
      · obtain ⟨m, hm⟩ := Tide.get_some L hlt
        obtain ⟨b, cap', e, hS, hgb, k1, k2, c0, c1, c2, _, _, _⟩ := H1.out.msg (by decide) hm
        cases e
        have hbl : b < w1.heap.size := H1.out.lim b hS
        have d0 := (hb.cell (p := ⟨b, k * 3, none⟩) hbl).trans c0
        have d1 := (hb.cell (p := ⟨b, k * 3 + 1, none⟩) hbl).trans c1
        have d2 := (hb.cell (p := ⟨b, k * 3 + 2, none⟩) hbl).trans c2
        have i0 : (0 : Int) ≤ (k : Int) := by omega
        have i1 : (k : Int) < (L.length : Int) := by omega
        have HC := Lib.hid (Tide.count_snoc (p := Tide.free) hm)
        have hle : (L.take k).countP Tide.free ≤ 200 := Nat.le_trans List.countP_le_length (by rw [List.length_take]; omega)
        generalize (L.take k).countP Tide.free = N at HC hle ⊢
        have hle' : (N : Int) ≤ 200 := by omega
        have HB := Lib.hid (hb.alloc hb.size (.cells #[.int .i64 m.id, .int .i64 m.till, .bool m.taken] 65))
        clear hm c0 c1 c2 hb k1 k2 hle
        cases ht : m.taken
        · rw [ht] at d2 HB
          have HT := Lib.hid (show Tide.free m = true by unfold Tide.free; rw [ht]; rfl)
          clear ht
          go_wp2_with fail
          go_roundw
          case rel => exact ⟨k + 1, by omega, by go_num, by rw [HC.out, HT.out]; go_num, HB.out⟩
          case measure => simp [intOf]; omega
        · rw [ht] at d2 HB
          have HT := Lib.hid (show Tide.free m = false by unfold Tide.free; rw [ht]; rfl)
          clear ht
          go_wp2_with fail
          go_roundw
          case rel => exact ⟨k + 1, by omega, by go_num, by rw [HC.out, HT.out]; go_num, HB.out⟩
          case measure => simp [intOf]; omega
      · have HQ := Lib.hid (H1.out.chg (Tide.Chg.of_below (S := fun _ => False) hb (Nat.le_refl _)) (fun _ _ h => h))
        have HC := Lib.hid (C1.out.step_below hb C1.out.size)
        have hke : k = L.length := by omega
        subst hke
        clear hb
        rw [List.take_length]
        go_wp2_with fail
        go_ret2
        exact ⟨(by rw [hfin.out.1, hfin.out.2] <;> rfl), by rw [HL.out]; exact HQ.out, HC.out⟩

def QNewPost (T : TypeId) (w : World) (e : Ending) (w' : World) : Prop := ∃ g v, e = .returned (.pointer (some ⟨g, 0, none⟩)) ∧ QAt T (Tide.Plus (fun _ => False) w w') w' g v [] 0 ∧ Below w.heap.size w w'
theorem qnew_made (T : TypeId) (w : World) : QNewPost T w (.returned (.pointer (some ⟨w.heap.size, 0, none⟩))) (w.alloc (.cells #[.slice none 0 0, .int .i64 0] T)) :=
  ⟨_, _, rfl, ⟨Tide.At.made w T _, Tide.OwnRow.nil _ _ _ _, .inr ⟨Nat.le_refl _, by simp⟩, by simp, fun b hb => by rcases hb with hb | hb; exact hb.elim; exact hb.2⟩, (Below.refl _ _).alloc (Nat.le_refl _) _⟩
set_option maxHeartbeats 400000 in
theorem queNew (w : World) : Calls Tryz.prog 48 #[] w (QNewPost 147 w) := by
  go_enter Tryz.func48, Tryz.ntmps48
  go_wp2_with fail
  go_ret
  exact qnew_made _ _
end Go.Proofs.YtlfaogkdghnmcaaGreat
