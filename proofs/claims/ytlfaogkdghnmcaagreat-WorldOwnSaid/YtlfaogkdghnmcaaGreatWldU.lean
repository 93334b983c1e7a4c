/- Two worlds alike but for messages whose time is over: they stay so. -/
import Derived.Test.YtlfaogkdghnmcaaGreatWldO
set_option linter.unusedVariables false
set_option linter.unusedSimpArgs false
namespace Tide
theorem back_later {t t' : Int} (h : t ≤ t') (l : List Msg) : backAll t' (backAll t l) = backAll t' l := by
  unfold backAll
  rw [List.map_map]
  refine List.map_congr_left fun m _ => ?_
  show back t' (back t m) = back t' m
  by_cases c : (m.taken && decide (m.till ≤ t)) = true
  · have e : back t m = ⟨m.id, 0, false⟩ := by unfold back; rw [if_pos c]
    rw [Bool.and_eq_true, decide_eq_true_eq] at c
    have e2 : back t' m = ⟨m.id, 0, false⟩ := by unfold back; rw [if_pos (by rw [Bool.and_eq_true, decide_eq_true_eq]; exact ⟨c.1, by omega⟩)]
    rw [e, e2]; rfl
  · have e : back t m = m := by unfold back; rw [if_neg c]
    rw [e]
/-- the same messages, at a time -/
def QEq (t : Int) (l l' : List Msg) : Prop := backAll t l = backAll t l'
theorem QEq.up {t t' : Int} {l l' : List Msg} (h : QEq t l l') (ht : t ≤ t') : QEq t' l l' := by
  unfold QEq at *
  rw [← back_later ht l, h, back_later ht l']
theorem QEq.length {t : Int} {l l' : List Msg} (h : QEq t l l') : l.length = l'.length := by
  have := congrArg List.length h
  unfold backAll at this
  rwa [List.length_map, List.length_map] at this
theorem QEq.back {t : Int} {l l' : List Msg} (h : QEq t l l') : QEq t (nowLst l t) l' := by
  unfold nowLst
  split
  · unfold QEq; rw [back_later (Int.le_refl _)]; exact h
  · exact h
theorem QEq.symm {t : Int} {l l' : List Msg} (h : QEq t l l') : QEq t l' l := Eq.symm h
theorem QEq.nows {t : Int} {l l' : List Msg} (h : QEq t l l') : QEq t (nowLst l t) (nowLst l' t) := h.back.symm.back.symm
theorem QEq.put {t : Int} {l l' : List Msg} (h : QEq t l l') (last n : Int) : QEq t (putLst l last n) (putLst l' last n) ∧ putLast l last n = putLast l' last n := by
  have hl := h.length
  unfold putLst putLast
  rw [hl]
  refine ⟨?_, rfl⟩
  split
  · exact h
  · split
    · exact h
    · unfold QEq backAll at *
      rw [List.map_append, List.map_append, h]
theorem QEq.lease {t : Int} {l l' : List Msg} (h : QEq t l l') (n : Int) : QEq t (leaseLst l t n) (leaseLst l' t n) := by
  have e : backAll t l = backAll t l' := h
  unfold leaseLst
  rw [e]
  split
  · exact Eq.refl _
  · exact h
theorem QEq.ack {t : Int} {l l' : List Msg} (h : QEq t l l') (n : Int) : QEq t (ackLst l t n) (ackLst l' t n) := by
  have e : backAll t l = backAll t l' := h
  unfold ackLst
  rw [e]
  split
  · exact Eq.refl _
  · exact h
end Tide
namespace Go.Proofs.YtlfaogkdghnmcaaGreat
open Go.RowKit
def Alike (a b : Wo) : Prop := ∃ q', b = { a with q := q' } ∧ Tide.QEq a.now a.q q'
theorem Alike.refl (a : Wo) : Alike a a := ⟨a.q, rfl, Eq.refl _⟩
theorem readsOf_eq {tp : List (Int × Int)} {q q' : List Tide.Msg} {now : Int} (h : Tide.QEq now q q') : ∀ (ts : List Trg) (bs : List Bool), readsOf tp q now ts bs = readsOf tp q' now ts bs
  | [], _ => rfl
  | _ :: _, [] => rfl
  | t :: ts, b :: bs => by
    have ih := readsOf_eq (tp := tp) h ts bs
    unfold readsOf
    rw [ih]
    have e : readOf t b tp q now = readOf t b tp q' now := by
      unfold readOf Tide.depthNum
      rw [show Tide.backAll now q = Tide.backAll now q' from h]
    rw [e]
theorem Alike.late {a b : Wo} (h : Alike a b) : Alike a.late b.late := by
  obtain ⟨q', rfl, hq⟩ := h
  exact ⟨q', rfl, hq.up (by show a.now ≤ a.now + 1; omega)⟩
theorem Alike.on {a b : Wo} (h : Alike a b) : Alike a.on b.on := by
  obtain ⟨q', rfl, hq⟩ := h
  exact ⟨q', rfl, hq⟩
theorem Alike.seen {a b : Wo} (h : Alike a b) : Alike a.seen b.seen := by
  obtain ⟨q', rfl, hq⟩ := h
  unfold Wo.seen
  show Alike (if dueB a.l a.now then a.look else a) (if dueB a.l a.now then ({ a with q := q' } : Wo).look else { a with q := q' })
  split
  · have hr : ({ a with q := q' } : Wo).reads = a.reads := (readsOf_eq (tp := a.t) hq a.l.p.trigs a.fails).symm
    have ht : ({ a with q := q' } : Wo).told = a.told := by
      show lookN a.l a.now _ _ ({ a with q := q' } : Wo).reads _ = _
      rw [hr]; rfl
    refine ⟨qAfter a.l.p.trigs q' a.now, ?_, ?_⟩
    · unfold Wo.look
      rw [ht]
      show ({ l := lookL a.l a.now _ _ ({ a with q := q' } : Wo).reads _, t := _, q := _, ql := _, f := _, fl := _, most := _, b := _, fails := _, sec := _, now := _, target := _ } : Wo) = _
      rw [hr]; rfl
    · show Tide.QEq a.now (qAfter a.l.p.trigs a.q a.now) (qAfter a.l.p.trigs q' a.now)
      unfold qAfter
      split
      · exact hq.nows
      · exact hq
  · exact ⟨q', rfl, hq⟩
theorem Alike.tick {a b : Wo} (h : Alike a b) : Alike a.tick b.tick := h.late.seen.on
theorem Alike.ticks {a b : Wo} (h : Alike a b) : ∀ n : Nat, Alike (ticksN n a) (ticksN n b)
  | 0 => h
  | n + 1 => (Alike.ticks h n).tick
theorem Alike.do {a b : Wo} (h : Alike a b) (k x n : Int) : Alike (doW a k x n) (doW b k x n) := by
  have h0 := h
  obtain ⟨q', rfl, hq⟩ := h
  unfold doW
  by_cases k1 : k = 1
  · rw [if_pos k1, if_pos k1]
    show Alike (if tickE a n = 0 then _ else _) (if tickE a n = 0 then _ else _)
    split
    · exact h0.ticks _
    · exact h0
  rw [if_neg k1, if_neg k1]
  by_cases k2 : k = 2
  · rw [if_pos k2, if_pos k2]; exact ⟨q', rfl, hq⟩
  rw [if_neg k2, if_neg k2]
  by_cases k3 : k = 3
  · rw [if_pos k3, if_pos k3]; exact ⟨q', rfl, hq⟩
  rw [if_neg k3, if_neg k3]
  by_cases k4 : k = 4
  · rw [if_pos k4, if_pos k4]
    obtain ⟨e1, e2⟩ := hq.put a.ql n
    refine ⟨Tide.putLst q' a.ql n, ?_, e1⟩
    show ({ a with q := Tide.putLst q' a.ql n, ql := Tide.putLast q' a.ql n } : Wo) = { a with q := Tide.putLst q' a.ql n, ql := Tide.putLast a.q a.ql n }
    rw [e2]
  rw [if_neg k4, if_neg k4]
  by_cases k5 : k = 5
  · rw [if_pos k5, if_pos k5]; exact ⟨_, rfl, hq.lease n⟩
  rw [if_neg k5, if_neg k5]
  by_cases k6 : k = 6
  · rw [if_pos k6, if_pos k6]; exact ⟨_, rfl, hq.ack n⟩
  rw [if_neg k6, if_neg k6]
  by_cases k7 : k = 7
  · rw [if_pos k7, if_pos k7]
    show Alike (if failE a x n = 0 then _ else _) (if failE a x n = 0 then _ else _)
    split
    · exact ⟨q', rfl, hq⟩
    · exact h0
  rw [if_neg k7, if_neg k7]
  by_cases k8 : k = 8
  · rw [if_pos k8, if_pos k8]; exact ⟨q', rfl, hq⟩
  rw [if_neg k8, if_neg k8]
  by_cases k9 : k = 9
  · rw [if_pos k9, if_pos k9]
    show Alike (if Tide.turnErr a.f n 2 = 0 then _ else _) (if Tide.turnErr a.f n 2 = 0 then _ else _)
    split
    · exact ⟨q', rfl, hq⟩
    · exact h0
  rw [if_neg k9, if_neg k9]
  by_cases k10 : k = 10
  · rw [if_pos k10, if_pos k10]
    show Alike (if Tide.crashErr a.f n = 0 then _ else _) (if Tide.crashErr a.f n = 0 then _ else _)
    split
    · exact ⟨q', rfl, hq⟩
    · exact h0
  rw [if_neg k10, if_neg k10]
  by_cases k11 : k = 11
  · rw [if_pos k11, if_pos k11]
    show Alike (if Tide.askErr a.b a.now x n = 0 then _ else _) (if Tide.askErr a.b a.now x n = 0 then _ else _)
    split
    · exact ⟨q', rfl, hq⟩
    · exact h0
  rw [if_neg k11, if_neg k11]
  by_cases k12 : k = 12
  · rw [if_pos k12, if_pos k12]
    show Alike (if Tide.doneErr a.b n = 0 then _ else _) (if Tide.doneErr a.b n = 0 then _ else _)
    split
    · exact ⟨q', rfl, hq⟩
    · exact h0
  rw [if_neg k12, if_neg k12]
  split
  · exact ⟨q', rfl, hq⟩
  · exact h0
/-- its messages were asked for -/
theorem Alike.msgs {a b : Wo} (h : Alike a b) : Alike { a with q := Tide.nowLst a.q a.now } b := by
  obtain ⟨q', rfl, hq⟩ := h
  exact ⟨q', rfl, hq.back⟩
theorem Alike.all {a b : Wo} (h : Alike a b) : Tide.allLst a.q a.now = Tide.allLst b.q b.now := by
  obtain ⟨q', rfl, hq⟩ := h
  unfold Tide.allLst
  rw [show Tide.backAll a.now a.q = Tide.backAll a.now q' from hq]
theorem Alike.rest {a b : Wo} (h : Alike a b) : a.target = b.target ∧ a.f = b.f ∧ a.b = b.b ∧ a.t = b.t := by
  obtain ⟨q', rfl, hq⟩ := h
  exact ⟨rfl, rfl, rfl, rfl⟩
theorem now_length (l : List Tide.Msg) (t : Int) : (Tide.nowLst l t).length = l.length := by
  unfold Tide.nowLst
  split
  · unfold Tide.backAll; rw [List.length_map]
  · rfl
theorem ok_msgs {a : Wo} {j : Nat} (h : a.ok j) : ({ a with q := Tide.nowLst a.q a.now } : Wo).ok j := { h with qn := by show (Tide.nowLst a.q a.now).length ≤ 200; rw [now_length]; exact h.qn }
end Go.Proofs.YtlfaogkdghnmcaaGreat
