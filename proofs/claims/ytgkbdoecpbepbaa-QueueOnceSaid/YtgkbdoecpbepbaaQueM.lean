/- What a queue does, as plain functions on lists. -/
import Derived.Test.YtgkbdoecpbepbaaLst
namespace Tide
open Go
/-- a message: its number, till when it is lent, whether it is -/
structure Msg where
  id : Int
  till : Int
  taken : Bool
  deriving DecidableEq
def Msg.enc (m : Msg) : List Value := [.int .i64 m.id, .int .i64 m.till, .bool m.taken]
theorem Msg.enc_length (m : Msg) : m.enc.length = 3 := rfl
/-- what was lent till a time is there again -/
def back (now : Int) (m : Msg) : Msg := if m.taken && decide (m.till ≤ now) then ⟨m.id, 0, false⟩ else m
def newMsgs (last : Int) (n : Nat) : List Msg := (List.range n).map fun i : Nat => ⟨last + 1 + (i : Int), 0, false⟩
theorem newMsgs_length (last : Int) (n : Nat) : (newMsgs last n).length = n := by simp [newMsgs]
theorem newMsgs_succ (last : Int) (n : Nat) : newMsgs last (n + 1) = newMsgs last n ++ [⟨last + 1 + n, 0, false⟩] := by simp [newMsgs, List.range_succ]
def nowOk (now : Int) : Bool := decide (0 ≤ now) && decide (now ≤ 1099511627776)
def free (m : Msg) : Bool := !m.taken
def backAll (now : Int) (l : List Msg) : List Msg := l.map (back now)
/-- Put: first number, error, list, last -/
def putNum (l : List Msg) (last n : Int) : Int := if n < 1 then 0 else if 200 < n + l.length then 0 else last + 1
def putErr (l : List Msg) (n : Int) : Int := if n < 1 then 1 else if 200 < n + l.length then 6 else 0
def putLst (l : List Msg) (last n : Int) : List Msg := if n < 1 then l else if 200 < n + l.length then l else l ++ newMsgs last n.toNat
def putLast (l : List Msg) (last n : Int) : Int := if n < 1 then last else if 200 < n + l.length then last else last + n
def leaseOk (now ticks : Int) : Bool := decide (1 ≤ ticks) && decide (ticks ≤ 100000) && nowOk now
def leaseNum (l : List Msg) (now ticks : Int) : Int := if leaseOk now ticks then (match firstAt free (backAll now l) with | none => 0 | some i => ((backAll now l)[i]?.map (·.id)).getD 0) else 0
def leaseErr (l : List Msg) (now ticks : Int) : Int := if leaseOk now ticks then (match firstAt free (backAll now l) with | none => 4 | some _ => 0) else 1
def lend (now ticks : Int) (m : Msg) : Msg := ⟨m.id, now + ticks, true⟩
def leaseLst (l : List Msg) (now ticks : Int) : List Msg := if leaseOk now ticks then (match firstAt free (backAll now l) with | none => backAll now l | some i => (backAll now l).modify i (lend now ticks)) else l
def isId (id : Int) (m : Msg) : Bool := m.id == id
def ackErr (l : List Msg) (now id : Int) : Int := if nowOk now then (match firstAt (isId id) (backAll now l) with | none => 4 | some i => match (backAll now l)[i]? with | some m => if m.taken then 0 else 7 | none => 4) else 1
def ackLst (l : List Msg) (now id : Int) : List Msg := if nowOk now then (match firstAt (isId id) (backAll now l) with | none => backAll now l | some i => match (backAll now l)[i]? with | some m => if m.taken then (backAll now l).eraseIdx i else backAll now l | none => backAll now l) else l
def nowLst (l : List Msg) (now : Int) : List Msg := if nowOk now then backAll now l else l
def nowErr (now : Int) : Int := if nowOk now then 0 else 1
def depthNum (l : List Msg) (now : Int) : Int := if nowOk now then ((backAll now l).countP free : Nat) else 0
def allLst (l : List Msg) (now : Int) : List Msg := if nowOk now then backAll now l else []
/-- the numbers of the messages go up -/
def Up (l : List Msg) : Prop := l.Pairwise (fun a b => a.id < b.id)
theorem back_id (now : Int) (m : Msg) : (back now m).id = m.id := by unfold back; split <;> rfl
theorem Up.backAll {l : List Msg} (h : Up l) (now : Int) : Up (backAll now l) := by
  unfold Up Tide.backAll
  rw [List.pairwise_map]
  exact h.imp fun {a b} hab => by rw [back_id, back_id]; exact hab
theorem Up.split {l : List Msg} (h : Up l) {i : Nat} {m : Msg} (hi : l[i]? = some m) : (∀ a ∈ l.take i, a.id < m.id) ∧ (∀ a ∈ l.drop (i + 1), m.id < a.id) := by
  have e : l = l.take i ++ (m :: l.drop (i + 1)) := by rw [← drop_of_get hi, List.take_append_drop]
  unfold Up at h
  rw [e, List.pairwise_append] at h
  obtain ⟨_, h2, h3⟩ := h
  rw [List.pairwise_cons] at h2
  exact ⟨fun a ha => h3 a ha m (by simp), fun a ha => h2.1 a ha⟩
/-- what the reference's Ack keeps, and what it tells -/
def stays (id : Int) (m : Msg) : Bool := !(m.id == id && m.taken)
def ackStep (id e : Int) (m : Msg) : Int := if m.id == id then (if m.taken then 0 else 7) else e
def ackE (id : Int) (l : List Msg) : Int := l.foldl (ackStep id) 4
theorem ackE_snoc (id : Int) {l : List Msg} {k : Nat} {m : Msg} (h : l[k]? = some m) : ackE id (l.take (k + 1)) = ackStep id (ackE id (l.take k)) m := by
  unfold ackE; rw [take_of_get h, List.foldl_append]; rfl
theorem fold_none (id : Int) : ∀ (l : List Msg) (e : Int), (∀ a ∈ l, a.id ≠ id) → l.foldl (ackStep id) e = e
  | [], e, _ => rfl
  | a :: l, e, h => by
    have h1 : ackStep id e a = e := by unfold ackStep; have := h a (by simp); simp [this]
    rw [List.foldl_cons, h1]; exact fold_none id l e (fun b hb => h b (by simp [hb]))
theorem filter_all (id : Int) (l : List Msg) (h : ∀ a ∈ l, a.id ≠ id) : l.filter (stays id) = l := by
  rw [List.filter_eq_self]; intro a ha; unfold stays; have := h a ha; simp [this]
theorem ack_same {l : List Msg} (h : Up l) (id : Int) : ackE id l = (match firstAt (isId id) l with | none => 4 | some i => match l[i]? with | some m => if m.taken then 0 else 7 | none => 4) ∧
    l.filter (stays id) = (match firstAt (isId id) l with | none => l | some i => match l[i]? with | some m => if m.taken then l.eraseIdx i else l | none => l) := by
  cases hf : firstAt (isId id) l with
  | none =>
    have hn : ∀ a ∈ l, a.id ≠ id := fun a ha => by
      obtain ⟨k, hk, e⟩ := List.mem_iff_getElem.1 ha
      have := firstAt_miss hf k a (by rw [List.getElem?_eq_getElem hk, e])
      unfold isId at this; simpa using this
    exact ⟨fold_none id l 4 hn, filter_all id l hn⟩
  | some i =>
    obtain ⟨m, hm, hp, _⟩ := firstAt_spec hf
    have hmi : m.id = id := by unfold isId at hp; simpa using hp
    obtain ⟨h1, h2⟩ := h.split hm
    have n1 : ∀ a ∈ l.take i, a.id ≠ id := fun a ha => by have := h1 a ha; omega
    have n2 : ∀ a ∈ l.drop (i + 1), a.id ≠ id := fun a ha => by have := h2 a ha; omega
    have e : l = l.take i ++ (m :: l.drop (i + 1)) := by rw [← drop_of_get hm, List.take_append_drop]
    have hk : ackStep id 4 m = if m.taken then 0 else 7 := by unfold ackStep; simp [hmi]
    simp only [hm]
    constructor
    · conv => lhs; rw [e]
      unfold ackE
      rw [List.foldl_append, fold_none id _ 4 n1, List.foldl_cons, hk, fold_none id _ _ n2]
    · conv => lhs; rw [e]
      rw [List.filter_append, filter_all id _ n1, List.filter_cons, filter_all id _ n2]
      cases ht : m.taken
      · have : stays id m = true := by unfold stays; simp [ht]
        simp only [this, if_true, Bool.false_eq_true, if_false]; exact e.symm
      · have : stays id m = false := by unfold stays; simp [ht, hmi]
        simp only [this, Bool.false_eq_true, if_false, if_true]
        rw [List.eraseIdx_eq_take_drop_succ]
end Tide
