/- Parts of this claim: QueM, FleM, FleN, BufM, BufN, BufP, BufR, BufC. -/
import Derived.RegionTactic
import Derived.Deep.RegionLaw
import Derived.Deep.DeepCutAuto
import Derived.Test.YtoidcbpcnikejaaGreatDoorDq00
set_option linter.unusedVariables false
set_option linter.unusedSimpArgs false
set_option maxRecDepth 100000
set_option maxHeartbeats 12800000
namespace G
open Go
structure Msg where
 id : Int
 till : Int
 taken : Bool
 deriving DecidableEq
def Msg.enc (m : Msg) : List Value := [.int .i64 m.id, .int .i64 m.till, .bool m.taken]
theorem Msg.enc_length (m : Msg) : m.enc.length = 3 := rfl
def back (now : Int) (m : Msg) : Msg := if m.taken && decide (m.till ≤ now) then ⟨m.id, 0, false⟩ else m
def newMsgs (last : Int) (n : Nat) : List Msg := (List.range n).map fun i : Nat => ⟨last + 1 + (i : Int), 0, false⟩
theorem newMsgs_length (last : Int) (n : Nat) : (newMsgs last n).length = n := by simp [newMsgs]
theorem newMsgs_succ (last : Int) (n : Nat) : newMsgs last (n + 1) = newMsgs last n ++ [⟨last + 1 + n, 0, false⟩] := by simp [newMsgs, List.range_succ]
def nowOk (now : Int) : Bool := decide (0 ≤ now) && decide (now ≤ 1099511627776)
def free (m : Msg) : Bool := !m.taken
def backAll (now : Int) (l : List Msg) : List Msg := l.map (back now)
def putNum (l : List Msg) (last n : Int) : Int := if n < 1 then 0 else if 200 < n + l.length then 0 else last + 1
def putErr (l : List Msg) (n : Int) : Int := if n < 1 then 1 else if 200 < n + l.length then 6 else 0
def putLst (l : List Msg) (last n : Int) : List Msg := if n < 1 then l else if 200 < n + l.length then l else l ++ newMsgs last n.toNat
def putLast (l : List Msg) (last n : Int) : Int := if n < 1 then last else if 200 < n + l.length then last else last + n
def leaseOk (now ticks : Int) : Bool := decide (1 ≤ ticks) && decide (ticks ≤ 100000) && nowOk now
def leaseNum (l : List Msg) (now ticks : Int) : Int := if leaseOk now ticks then (match firstAt free (backAll now l) with | none => 0 | some i => ((backAll now l)[i]?.map (·.id)).getD 0) else 0
def leaseErr (l : List Msg) (now ticks : Int) : Int := if leaseOk now ticks then (match firstAt free (backAll now l) with | none => 4 | some _ => 0) else 1
def lend (now ticks : Int) (m : Msg) : Msg := ⟨m.id, now + ticks, true⟩
def leaseLst (l : List Msg) (now ticks : Int) : List Msg := if leaseOk now ticks then (match firstAt free (backAll now l) with | none => backAll now l | some i => (backAll now l).modify i (lend now ticks)) else l
def isId (id : Int) (m : Msg) : Bool := m.id == id
def ackErr (l : List Msg) (now id : Int) : Int := if nowOk now then (match firstAt (isId id) (backAll now l) with | none => 4 | some i => match (backAll now l)[i]? with | some m => if m.taken then 0 else 7 | none => 4) else 1
def ackLst (l : List Msg) (now id : Int) : List Msg := if nowOk now then (match firstAt (isId id) (backAll now l) with | none => backAll now l | some i => match (backAll now l)[i]? with | some m => if m.taken then (backAll now l).eraseIdx i else backAll now l | none => backAll now l) else l
def nowLst (l : List Msg) (now : Int) : List Msg := if nowOk now then backAll now l else l
def nowErr (now : Int) : Int := if nowOk now then 0 else 1
def depthNum (l : List Msg) (now : Int) : Int := if nowOk now then ((backAll now l).countP free : Nat) else 0
def Up (l : List Msg) : Prop := l.Pairwise (fun a b => a.id < b.id)
theorem back_id (now : Int) (m : Msg) : (back now m).id = m.id := by unfold back; split <;> rfl
theorem Up.backAll {l : List Msg} (h : Up l) (now : Int) : Up (backAll now l) := by
 unfold Up G.backAll
 rw [List.pairwise_map]
 exact h.imp fun {a b} hab => by rw [back_id, back_id]; exact hab
theorem Up.split {l : List Msg} (h : Up l) {i : Nat} {m : Msg} (hi : l[i]? = some m) : (∀ a ∈ l.take i, a.id < m.id) ∧ (∀ a ∈ l.drop (i + 1), m.id < a.id) := by
 have e : l = l.take i ++ (m :: l.drop (i + 1)) := by rw [← drop_of_get hi, List.take_append_drop]
 unfold Up at h
 rw [e, List.pairwise_append] at h
 obtain ⟨_, h2, h3⟩ := h
 rw [List.pairwise_cons] at h2
 exact ⟨fun a ha => h3 a ha m (by simp), fun a ha => h2.1 a ha⟩
end G
namespace G
open Go
structure Pod where
 id : Int
 state : Int
 load : Int
 deriving DecidableEq
def Pod.enc (p : Pod) : List Value := [.int .i64 p.id, .int .i64 p.state, .int .i64 p.load]
theorem Pod.enc_length (p : Pod) : p.enc.length = 3 := rfl
def lives (p : Pod) : Bool := !(p.state == 4)
def liveN (l : List Pod) : Int := (l.countP lives : Nat)
def beats (less : Pod → Pod → Bool) (l : List Pod) (o : Option Nat) (p : Pod) : Bool := match o with | none => true | some j => match l[j]? with | none => true | some q => less p q
def pick (want : Pod → Bool) (less : Pod → Pod → Bool) (l : List Pod) : Nat → Option Nat
 | 0 => none
 | k + 1 => match l[k]? with
  | none => pick want less l k
  | some p => if want p && beats less l (pick want less l k) p then some k else pick want less l k
def best (st : Int) (less : Pod → Pod → Bool) (l : List Pod) : Option Nat := pick (fun p => p.state == st) less l l.length
def gtId (a b : Pod) : Bool := decide (b.id < a.id)
def ltBoth (a b : Pod) : Bool := decide (a.load < b.load) || ((a.load == b.load) && decide (b.id < a.id))
def ltLoad (a b : Pod) : Bool := decide (a.load < b.load)
def loadAt (l : List Pod) (i : Nat) : Int := ((l[i]?).map (·.load)).getD 0
def drainAt (l : List Pod) (i : Nat) : List Pod := match l[i]? with | none => l | some p => l.set i { p with state := 4 }
def fewerL (l : List Pod) : List Pod :=
 match best 1 gtId l with
 | some i => l.eraseIdx i
 | none => match best 2 gtId l with
  | some i => l.eraseIdx i
  | none => match best 3 ltBoth l with
   | some i => if loadAt l i = 0 then l.eraseIdx i else drainAt l i
   | none => l
def newPods (last : Int) (m : Nat) : List Pod := (List.range m).map fun (i : Nat) => ⟨last + 1 + (i : Int), 1, 0⟩
def thinN : Nat → List Pod → List Pod
 | 0, l => l
 | k + 1, l => thinN k (fewerL l)
def scaleErr (n : Int) : Int := if n < 0 ∨ 50 < n then 1 else 0
def scaleUp (l : List Pod) (n : Int) : Nat := if n < 0 ∨ 50 < n then 0 else (n - liveN l).toNat
def scaleDown (l : List Pod) (n : Int) : Nat := if n < 0 ∨ 50 < n then 0 else (liveN l - n).toNat
def scaleLst (l : List Pod) (last n : Int) : List Pod := thinN (scaleDown l n) (l ++ newPods last (scaleUp l n))
def scaleLast (l : List Pod) (last n : Int) : Int := last + scaleUp l n
def podIs (id : Int) (p : Pod) : Bool := p.id == id
def findP (l : List Pod) (id : Int) : Option Nat := firstAt (podIs id) l
def turnErr (l : List Pod) (id src : Int) : Int := match findP l id with | none => 4 | some i => match l[i]? with | none => 4 | some p => if p.state = src then 0 else 7
def turnLst (l : List Pod) (id src dst : Int) : List Pod := match findP l id with | none => l | some i => match l[i]? with | none => l | some p => if p.state = src then l.set i { p with state := dst } else l
def crashErr (l : List Pod) (id : Int) : Int := match findP l id with | none => 4 | some _ => 0
def crashNum (l : List Pod) (id : Int) : Int := match findP l id with | none => 0 | some i => loadAt l i
def crashLst (l : List Pod) (id : Int) : List Pod := match findP l id with | none => l | some i => l.eraseIdx i
def giveAt (l : List Pod) (most : Int) : Option Nat := match best 3 ltLoad l with | none => none | some i => if most ≤ loadAt l i then none else some i
def giveErr (l : List Pod) (most : Int) : Int := match giveAt l most with | none => 4 | some _ => 0
def giveNum (l : List Pod) (most : Int) : Int := match giveAt l most with | none => 0 | some i => ((l[i]?).map (·.id)).getD 0
def giveLst (l : List Pod) (most : Int) : List Pod := match giveAt l most with | none => l | some i => match l[i]? with | none => l | some p => l.set i { p with load := p.load + 1 }
def podDoneErr (l : List Pod) (id : Int) : Int := match findP l id with | none => 4 | some i => if loadAt l i = 0 then 7 else 0
def podDoneLst (l : List Pod) (id : Int) : List Pod :=
 match findP l id with
 | none => l
 | some i => match l[i]? with
  | none => l
  | some p => if p.load = 0 then l else if p.state = 4 ∧ p.load - 1 = 0 then l.eraseIdx i else l.set i { p with load := p.load - 1 }
structure Crewed (l : List Pod) (last most : Int) : Prop where
 up : l.Pairwise (fun a b => a.id < b.id)
 ids : ∀ p ∈ l, 1 ≤ p.id ∧ p.id ≤ last
 states : ∀ p ∈ l, 1 ≤ p.state ∧ p.state ≤ 4
 loads : ∀ p ∈ l, 0 ≤ p.load ∧ p.load ≤ most ∧ (0 < p.load → 3 ≤ p.state) ∧ (p.state = 4 → 0 < p.load)
 last0 : 0 ≤ last
theorem pick_lt {w : Pod → Bool} {f : Pod → Pod → Bool} {l : List Pod} : ∀ {k i : Nat}, pick w f l k = some i → i < k ∧ ∃ p, l[i]? = some p ∧ w p = true
 | 0, i, h => by cases h
 | k + 1, i, h => by
  unfold pick at h
  split at h
  ·have := pick_lt h; exact ⟨by omega, this.2⟩
  rename_i p hp
  by_cases hc : (w p && beats f l (pick w f l k) p) = true
  ·rw [if_pos hc] at h
   cases h
   rw [Bool.and_eq_true] at hc
   exact ⟨by omega, p, hp, hc.1⟩
  rw [if_neg hc] at h
  have := pick_lt h; exact ⟨by omega, this.2⟩
theorem pick_none {w : Pod → Bool} {f : Pod → Pod → Bool} {l : List Pod} : ∀ {k : Nat}, pick w f l k = none → ∀ (i : Nat) (p : Pod), i < k → l[i]? = some p → w p = false
 | 0, _, i, p, hi, _ => by omega
 | k + 1, h, i, p, hi, hp => by
  unfold pick at h
  split at h
  ·rename_i hn
   rcases Nat.lt_succ_iff_lt_or_eq.1 hi with c | c
   ·exact pick_none h i p c hp
   subst c; rw [hn] at hp; cases hp
  rename_i q hq
  by_cases hc : (w q && beats f l (pick w f l k) q) = true
  ·rw [if_pos hc] at h; cases h
  rw [if_neg hc] at h
  rcases Nat.lt_succ_iff_lt_or_eq.1 hi with c | c
  ·exact pick_none h i p c hp
  subst c
  rw [hq] at hp; cases hp
  rw [h] at hc
  cases hw : w p
  ·rfl
  rw [hw] at hc; exact absurd rfl hc
theorem pick_succ {w : Pod → Bool} {f : Pod → Pod → Bool} {l : List Pod} {k : Nat} {p : Pod} (hp : l[k]? = some p) :
  pick w f l (k + 1) = if w p && beats f l (pick w f l k) p then some k else pick w f l k := by
 conv => lhs; unfold pick
 rw [hp]
end G
namespace G
theorem split_at {l : List Pod} {i : Nat} {p : Pod} (h : l[i]? = some p) : l = l.take i ++ p :: l.drop (i + 1) := by
 conv => lhs; rw [← List.take_append_drop i l]
 rw [drop_of_get h]
theorem erase_at {l : List Pod} {i : Nat} : l.eraseIdx i = l.take i ++ l.drop (i + 1) := List.eraseIdx_eq_take_drop_succ l i
theorem set_at {l : List Pod} {i : Nat} {p q : Pod} (h : l[i]? = some p) : l.set i q = l.take i ++ q :: l.drop (i + 1) := by
 rw [List.set_eq_take_append_cons_drop, if_pos (get_lt h)]
theorem live_erase {l : List Pod} {i : Nat} {p : Pod} (h : l[i]? = some p) : liveN (l.eraseIdx i) = liveN l - (if lives p then 1 else 0) := by
 unfold liveN
 conv => rhs; rw [split_at h]
 rw [erase_at, List.countP_append, List.countP_append, List.countP_cons]
 split <;> simp <;> omega
theorem live_set {l : List Pod} {i : Nat} {p q : Pod} (h : l[i]? = some p) : liveN (l.set i q) = liveN l - (if lives p then 1 else 0) + (if lives q then 1 else 0) := by
 unfold liveN
 conv => rhs; rw [split_at h]
 rw [set_at h, List.countP_append, List.countP_append, List.countP_cons, List.countP_cons]
 split <;> split <;> simp <;> omega
def sumL (l : List Pod) : Int := (l.map (·.load)).sum
theorem sum_erase {l : List Pod} {i : Nat} {p : Pod} (h : l[i]? = some p) : sumL (l.eraseIdx i) = sumL l - p.load := by
 unfold sumL
 conv => rhs; rw [split_at h]
 rw [erase_at, List.map_append, List.sum_append, List.map_append, List.sum_append, List.map_cons, List.sum_cons]
 omega
theorem sum_set {l : List Pod} {i : Nat} {p q : Pod} (h : l[i]? = some p) : sumL (l.set i q) = sumL l - p.load + q.load := by
 unfold sumL
 conv => rhs; rw [split_at h]
 rw [set_at h, List.map_append, List.sum_append, List.map_append, List.sum_append, List.map_cons, List.sum_cons, List.map_cons, List.sum_cons]
 omega
theorem best_at {st : Int} {f : Pod → Pod → Bool} {l : List Pod} {i : Nat} (h : best st f l = some i) : ∃ p, l[i]? = some p ∧ p.state = st := by
 obtain ⟨_, p, hp, hs⟩ := pick_lt h
 exact ⟨p, hp, by simpa using hs⟩
theorem best_no {st : Int} {f : Pod → Pod → Bool} {l : List Pod} (h : best st f l = none) : ∀ p ∈ l, p.state ≠ st := by
 intro p hp
 obtain ⟨i, hi⟩ := List.mem_iff_getElem?.1 hp
 have := pick_none h i p (get_lt hi) hi
 simpa using this
theorem victim {l : List Pod} (hs : ∀ p ∈ l, 1 ≤ p.state ∧ p.state ≤ 4) (hl : 0 < liveN l) (h1 : best 1 gtId l = none) (h2 : best 2 gtId l = none) : ∃ i, best 3 ltBoth l = some i := by
 cases h3 : best 3 ltBoth l with
 | some i => exact ⟨i, rfl⟩
 | none =>
  have : l.countP lives = 0 := by
   rw [List.countP_eq_zero]
   intro p hp
   have a := hs p hp; have b1 := best_no h1 p hp; have b2 := best_no h2 p hp; have b3 := best_no h3 p hp
   unfold lives
   have : p.state = 4 := by omega
   simp [this]
  unfold liveN at hl; omega
theorem fewer_cases {l : List Pod} (hs : ∀ p ∈ l, 1 ≤ p.state ∧ p.state ≤ 4) (hl : 0 < liveN l) : ∃ i p, l[i]? = some p ∧ lives p = true ∧ p.state ≤ 3 ∧ ((fewerL l = l.eraseIdx i ∧ (p.state = 3 → p.load = 0)) ∨ (fewerL l = l.set i { p with state := 4 } ∧ p.state = 3 ∧ p.load ≠ 0)) := by
 unfold fewerL
 cases h1 : best 1 gtId l with
 | some i =>
  obtain ⟨p, hp, hs1⟩ := best_at h1
  exact ⟨i, p, hp, by unfold lives; rw [hs1]; rfl, by omega, .inl ⟨rfl, fun e => by omega⟩⟩
 | none =>
  cases h2 : best 2 gtId l with
  | some i =>
   obtain ⟨p, hp, hs1⟩ := best_at h2
   exact ⟨i, p, hp, by unfold lives; rw [hs1]; rfl, by omega, .inl ⟨rfl, fun e => by omega⟩⟩
  | none =>
   obtain ⟨i, h3⟩ := victim hs hl h1 h2
   obtain ⟨p, hp, hs1⟩ := best_at h3
   have hla : loadAt l i = p.load := by unfold loadAt; rw [hp]; rfl
   refine ⟨i, p, hp, by unfold lives; rw [hs1]; rfl, by omega, ?_⟩
   simp only [h3, hla]
   by_cases c : p.load = 0
   ·exact .inl ⟨by rw [if_pos c], fun _ => c⟩
   exact .inr ⟨by rw [if_neg c]; unfold drainAt; rw [hp], hs1, c⟩
theorem fewer_live {l : List Pod} (hs : ∀ p ∈ l, 1 ≤ p.state ∧ p.state ≤ 4) (hl : 0 < liveN l) : liveN (fewerL l) = liveN l - 1 := by
 obtain ⟨i, p, hp, hl, _, ⟨e, _⟩ | ⟨e, _, _⟩⟩ := fewer_cases hs hl
 ·rw [e, live_erase hp, hl]; rfl
 rw [e, live_set hp, hl]; simp [lives]
theorem mem_set {l : List Pod} {i : Nat} {q x : Pod} (h : x ∈ l.set i q) : x ∈ l ∨ x = q := List.mem_or_eq_of_mem_set h
theorem up_set {l : List Pod} {i : Nat} {p q : Pod} (h : l.Pairwise (fun a b => a.id < b.id)) (hp : l[i]? = some p) (e : q.id = p.id) : (l.set i q).Pairwise (fun a b => a.id < b.id) := by
 have h1 : (l.map (·.id)).Pairwise (· < ·) := by rw [List.pairwise_map]; exact h
 have h2 : (l.set i q).map (·.id) = l.map (·.id) := by
  rw [List.map_set, e]
  conv => rhs; rw [← List.set_getElem_self (show i < (l.map (·.id)).length by rw [List.length_map]; exact get_lt hp)]
  congr 1
  rw [List.getElem_map]
  have := List.getElem?_eq_getElem (get_lt hp)
  rw [this] at hp
  rw [Option.some.inj hp]
 rw [← h2, List.pairwise_map] at h1
 exact h1
theorem Crewed.erase {l : List Pod} {last most : Int} (h : Crewed l last most) (i : Nat) : Crewed (l.eraseIdx i) last most :=
 ⟨h.up.sublist (List.eraseIdx_sublist l i), fun p hp => h.ids p ((List.eraseIdx_sublist l i).subset hp), fun p hp => h.states p ((List.eraseIdx_sublist l i).subset hp), fun p hp => h.loads p ((List.eraseIdx_sublist l i).subset hp), h.last0⟩
theorem Crewed.set {l : List Pod} {last most : Int} (h : Crewed l last most) {i : Nat} {p q : Pod} (hp : l[i]? = some p) (e : q.id = p.id) (h1 : 1 ≤ q.state ∧ q.state ≤ 4) (h2 : 0 ≤ q.load ∧ q.load ≤ most ∧ (0 < q.load → 3 ≤ q.state) ∧ (q.state = 4 → 0 < q.load)) : Crewed (l.set i q) last most := by
 have hm := List.mem_of_getElem? hp
 refine ⟨up_set h.up hp e, fun x hx => ?_, fun x hx => ?_, fun x hx => ?_, h.last0⟩ <;> rcases mem_set hx with c | c
 ·exact h.ids x c
 ·rw [c, e]; exact h.ids p hm
 ·exact h.states x c
 ·rw [c]; exact h1
 ·exact h.loads x c
 rw [c]; exact h2
theorem Crewed.fewer {l : List Pod} {last most : Int} (h : Crewed l last most) (hl : 0 < liveN l) : Crewed (fewerL l) last most ∧ sumL (fewerL l) = sumL l ∧ (fewerL l).length ≤ l.length := by
 obtain ⟨i, p, hp, hlv, h3, ⟨e, hz⟩ | ⟨e, hz1, hz2⟩⟩ := fewer_cases h.states hl
 ·have hl := h.loads p (List.mem_of_getElem? hp)
  have : p.load = 0 := by
   by_cases c : p.state = 3
   ·exact hz c
   have := hl.2.2.1; omega
  rw [e]
  exact ⟨h.erase i, by rw [sum_erase hp, this]; omega, (List.eraseIdx_sublist l i).length_le⟩
 have hl := h.loads p (List.mem_of_getElem? hp)
 rw [e]
 exact ⟨h.set hp rfl ⟨show (1 : Int) ≤ 4 by decide, show (4 : Int) ≤ 4 by decide⟩ ⟨hl.1, hl.2.1, fun _ => by show (3:Int) ≤ 4; decide, fun _ => by show 0 < p.load; omega⟩, by rw [sum_set hp]; simp only; omega, by simp⟩
theorem newPods_length (last : Int) (m : Nat) : (newPods last m).length = m := by simp [newPods]
theorem newPods_succ (last : Int) (m : Nat) : newPods last (m + 1) = newPods last m ++ [⟨last + 1 + (m : Int), 1, 0⟩] := by
 unfold newPods; rw [List.range_succ, List.map_append]; rfl
theorem newPods_mem {last : Int} {m : Nat} {p : Pod} (h : p ∈ newPods last m) : last + 1 ≤ p.id ∧ p.id ≤ last + m ∧ p.state = 1 ∧ p.load = 0 := by
 unfold newPods at h
 obtain ⟨i, hi, rfl⟩ := List.mem_map.1 h
 rw [List.mem_range] at hi
 exact ⟨by simp only; omega, by simp only; omega, rfl, rfl⟩
theorem newPods_live (last : Int) (m : Nat) : (newPods last m).countP lives = m := by
 have : (newPods last m).countP lives = (newPods last m).length := by
  rw [List.countP_eq_length]
  intro p hp
  unfold lives; rw [(newPods_mem hp).2.2.1]; rfl
 rw [this, newPods_length]
theorem live_more (l : List Pod) (last : Int) (m : Nat) : liveN (l ++ newPods last m) = liveN l + m := by
 unfold liveN; rw [List.countP_append, newPods_live]; omega
theorem sum_more (l : List Pod) (last : Int) (m : Nat) : sumL (l ++ newPods last m) = sumL l := by
 unfold sumL
 rw [List.map_append, List.sum_append]
 have : ((newPods last m).map (·.load)) = List.replicate m 0 := by
  unfold newPods; rw [List.map_map]
  rw [List.eq_replicate_iff]
  exact ⟨by simp, fun b hb => by obtain ⟨i, _, rfl⟩ := List.mem_map.1 hb; rfl⟩
 rw [this]
 have h0 : ∀ k : Nat, (List.replicate k (0 : Int)).sum = 0 := fun k => by
  induction k with
  | zero => rfl
  | succ k ih => rw [List.replicate_succ, List.sum_cons, ih]; rfl
 rw [h0]; omega
theorem Crewed.more {l : List Pod} {last most : Int} (h : Crewed l last most) (hm : 0 ≤ most) (m : Nat) : Crewed (l ++ newPods last m) (last + m) most := by
 refine ⟨?_, fun p hp => ?_, fun p hp => ?_, fun p hp => ?_, by have := h.last0; omega⟩
 ·rw [List.pairwise_append]
  refine ⟨h.up, ?_, fun a ha b hb => ?_⟩
  ·unfold newPods
   rw [List.pairwise_map]
   exact List.pairwise_lt_range.imp (fun {a b} hab => by simp only; omega)
  have := h.ids a ha; have := newPods_mem hb; omega
 all_goals
  rcases List.mem_append.1 hp with c | c
 ·have := h.ids p c; omega
 ·have := newPods_mem c; have := h.last0; omega
 ·exact h.states p c
 ·have := newPods_mem c; omega
 ·exact h.loads p c
 have := newPods_mem c; omega
theorem thinN_succ : ∀ (m : Nat) (l : List Pod), thinN (m + 1) l = fewerL (thinN m l)
 | 0, l => rfl
 | m + 1, l => by rw [thinN, thinN_succ m (fewerL l)]; rfl
theorem Crewed.thinN {l : List Pod} {last most : Int} (h : Crewed l last most) : ∀ m : Nat, (m : Int) ≤ liveN l → Crewed (thinN m l) last most ∧ liveN (thinN m l) = liveN l - m ∧ sumL (thinN m l) = sumL l ∧ (G.thinN m l).length ≤ l.length
 | 0, _ => ⟨h, by simp [G.thinN], rfl, Nat.le_refl _⟩
 | m + 1, hm => by
  obtain ⟨h1, h2, h3, h4⟩ := h.thinN m (by omega)
  have hp : 0 < liveN (G.thinN m l) := by omega
  obtain ⟨h5, h6, h7⟩ := h1.fewer hp
  rw [thinN_succ]
  exact ⟨h5, by rw [fewer_live h1.states hp, h2]; omega, by rw [h6, h3], Nat.le_trans h7 h4⟩
theorem liveN_nn (l : List Pod) : 0 ≤ liveN l := by unfold liveN; omega
theorem Crewed.scale {l : List Pod} {last most : Int} (h : Crewed l last most) (hm : 0 ≤ most) (n : Int) : Crewed (scaleLst l last n) (scaleLast l last n) most ∧ sumL (scaleLst l last n) = sumL l ∧ (scaleErr n = 0 → liveN (scaleLst l last n) = n) ∧ (scaleLst l last n).length ≤ l.length + 50 ∧ scaleLast l last n ≤ last + 50 := by
 have hn := liveN_nn l
 have h1 := h.more hm (scaleUp l n)
 have hlm := live_more l last (scaleUp l n)
 have hD : (scaleDown l n : Int) ≤ liveN (l ++ newPods last (scaleUp l n)) := by
  rw [hlm]; unfold scaleDown scaleUp; split <;> omega
 obtain ⟨h2, h3, h4, h5⟩ := h1.thinN (scaleDown l n) hD
 have hU : scaleUp l n ≤ 50 := by unfold scaleUp; split <;> omega
 refine ⟨h2, by unfold scaleLst; rw [h4, sum_more], fun he => ?_, ?_, by unfold scaleLast; omega⟩
 ·unfold scaleErr at he
  split at he
  ·cases he
  rename_i hc
  unfold scaleLst
  rw [h3, hlm]
  unfold scaleDown scaleUp
  rw [if_neg hc, if_neg hc]; omega
 unfold scaleLst
 rw [List.length_append, newPods_length] at h5
 omega
theorem findP_some {l : List Pod} {id : Int} {i : Nat} (h : findP l id = some i) : ∃ p, l[i]? = some p ∧ p.id = id := by
 obtain ⟨p, h1, h2, _⟩ := firstAt_spec h
 exact ⟨p, h1, by unfold podIs at h2; simpa using h2⟩
theorem Crewed.turn {l : List Pod} {last most : Int} (h : Crewed l last most) (id src dst : Int) (hs : src = 1 ∧ dst = 2 ∨ src = 2 ∧ dst = 3) : Crewed (turnLst l id src dst) last most ∧ sumL (turnLst l id src dst) = sumL l ∧ (turnLst l id src dst).length = l.length := by
 unfold turnLst
 cases hf : findP l id with
 | none => exact ⟨h, rfl, rfl⟩
 | some i =>
  obtain ⟨p, hp, _⟩ := findP_some hf
  simp only [hp]
  by_cases c : p.state = src
  ·rw [if_pos c]
   have hl := h.loads p (List.mem_of_getElem? hp)
   have h0 : p.load = 0 := by have := hl.2.2.1; omega
   exact ⟨h.set hp rfl ⟨by simp only; omega, by simp only; omega⟩ ⟨hl.1, hl.2.1, fun e => by simp only at e; omega, fun e => by simp only at e; omega⟩, by rw [sum_set hp]; simp only; omega, by simp⟩
  rw [if_neg c]; exact ⟨h, rfl, rfl⟩
theorem Crewed.crash {l : List Pod} {last most : Int} (h : Crewed l last most) (id : Int) : Crewed (crashLst l id) last most ∧ sumL (crashLst l id) = sumL l - crashNum l id ∧ (crashLst l id).length ≤ l.length := by
 unfold crashLst crashNum
 cases hf : findP l id with
 | none => exact ⟨h, by simp, Nat.le_refl _⟩
 | some i =>
  obtain ⟨p, hp, _⟩ := findP_some hf
  simp only
  exact ⟨h.erase i, by rw [sum_erase hp]; unfold loadAt; rw [hp]; rfl, (List.eraseIdx_sublist l i).length_le⟩
theorem giveAt_some {l : List Pod} {most : Int} {i : Nat} (h : giveAt l most = some i) : ∃ p, l[i]? = some p ∧ p.state = 3 ∧ p.load < most := by
 unfold giveAt at h
 cases hb : best 3 ltLoad l with
 | none => rw [hb] at h; cases h
 | some j =>
  rw [hb] at h
  simp only at h
  obtain ⟨p, hp, hs⟩ := best_at hb
  have hla : loadAt l j = p.load := by unfold loadAt; rw [hp]; rfl
  by_cases c : most ≤ loadAt l j
  ·rw [if_pos c] at h; cases h
  rw [if_neg c] at h; cases h; exact ⟨p, hp, hs, by omega⟩
theorem Crewed.give {l : List Pod} {last most : Int} (h : Crewed l last most) : Crewed (giveLst l most) last most ∧ sumL (giveLst l most) = sumL l + (if giveErr l most = 0 then 1 else 0) ∧ (giveLst l most).length = l.length := by
 unfold giveLst giveErr
 cases hg : giveAt l most with
 | none => exact ⟨h, by simp, rfl⟩
 | some i =>
  obtain ⟨p, hp, hs, hl⟩ := giveAt_some hg
  simp only [hp]
  have h1 := h.loads p (List.mem_of_getElem? hp)
  exact ⟨h.set hp rfl ⟨by simp only; omega, by simp only; omega⟩ ⟨by simp only; omega, by simp only; omega, fun _ => by simp only; omega, fun e => by simp only at e; omega⟩, by rw [sum_set hp]; simp; omega, by simp⟩
theorem Crewed.done {l : List Pod} {last most : Int} (h : Crewed l last most) (id : Int) : Crewed (podDoneLst l id) last most ∧ sumL (podDoneLst l id) = sumL l - (if podDoneErr l id = 0 then 1 else 0) ∧ (podDoneLst l id).length ≤ l.length := by
 unfold podDoneLst podDoneErr
 cases hf : findP l id with
 | none => exact ⟨h, by simp, Nat.le_refl _⟩
 | some i =>
  obtain ⟨p, hp, _⟩ := findP_some hf
  have hla : loadAt l i = p.load := by unfold loadAt; rw [hp]; rfl
  simp only [hp, hla]
  have h1 := h.loads p (List.mem_of_getElem? hp)
  have h2 := h.states p (List.mem_of_getElem? hp)
  by_cases c : p.load = 0
  ·rw [if_pos c, if_pos c]; exact ⟨h, by simp, Nat.le_refl _⟩
  rw [if_neg c, if_neg c]
  by_cases d : p.state = 4 ∧ p.load - 1 = 0
  ·rw [if_pos d]
   exact ⟨h.erase i, by rw [sum_erase hp]; simp; omega, (List.eraseIdx_sublist l i).length_le⟩
  rw [if_neg d]
  refine ⟨h.set hp rfl h2 ⟨by simp only; omega, by simp only; omega, fun _ => by simp only; omega, fun e => by simp only at e ⊢; omega⟩, by rw [sum_set hp]; simp; omega, by simp⟩
theorem Crewed.nil (most : Int) : Crewed [] 0 most := ⟨List.Pairwise.nil, by simp, by simp, by simp, by decide⟩
end G
namespace G
open Go
structure Req where
 id : Int
 source : Int
 till : Int
 fate : Int
 pod : Int
 deriving DecidableEq
def Req.enc (r : Req) : List Value := [.int .i64 r.id, .int .i64 r.source, .int .i64 r.till, .int .i64 r.fate, .int .i64 r.pod]
theorem Req.enc_length (r : Req) : r.enc.length = 5 := rfl
def hasF (src fate : Int) (r : Req) : Bool := (r.fate == fate) && (decide (src < 0) || (r.source == src))
def countF (src fate : Int) (l : List Req) : Int := (l.countP (hasF src fate) : Nat)
def askErr (l : List Req) (now src ticks : Int) : Int :=
 if now < 0 ∨ 1099511627776 < now ∨ ticks < 1 ∨ 100000 < ticks then 1 else if src < 0 ∨ 6 ≤ src then 4 else if countF src 1 l = 20 ∨ countF (-1) 1 l = 60 ∨ l.length = 200 then 6 else 0
def askLst (l : List Req) (now src ticks : Int) : List Req := if askErr l now src ticks = 0 then l ++ [⟨l.length + 1, src, now + ticks, 1, 0⟩] else l
def askNum (l : List Req) (now src ticks : Int) : Int := if askErr l now src ticks = 0 then l.length + 1 else 0
def setF (p : Req → Bool) (fate : Int) (r : Req) : Req := if p r then { r with fate := fate } else r
def idsF (p : Req → Bool) (l : List Req) : List Int := (l.filter p).map (·.id)
def isLate (now : Int) (r : Req) : Bool := (r.fate == 1) && decide (r.till ≤ now)
def isLost (pod : Int) (r : Req) : Bool := (r.fate == 2) && (r.pod == pod)
def timeOk (now : Int) : Bool := decide (0 ≤ now) && decide (now ≤ 1099511627776)
def lateLst (l : List Req) (now : Int) : List Req := if timeOk now then l.map (setF (isLate now) 4) else l
def lateIds (l : List Req) (now : Int) : List Int := if timeOk now then idsF (isLate now) l else []
def lateErr (now : Int) : Int := if timeOk now then 0 else 1
def lostLst (l : List Req) (pod : Int) : List Req := l.map (setF (isLost pod) 5)
def waitsOf (src : Int) (r : Req) : Bool := (r.source == src) && (r.fate == 1)
def firstN (l : List Req) (src : Int) : Int := if 0 < countF src 2 l then 0 else match firstAt (waitsOf src) l with | none => 0 | some i => ((l[i]?).map (·.id)).getD 0
def bestStep (l : List Req) (best : Int) (s : Nat) : Int := if 0 < firstN l s ∧ (best = 0 ∨ firstN l s < best) then firstN l s else best
def nextN (l : List Req) : Int := (List.range 6).foldl (bestStep l) 0
def reqAt (l : List Req) (id : Int) : Option Req := if 1 ≤ id then l[(id - 1).toNat]? else none
def runErr (l : List Req) (id : Int) : Int := match reqAt l id with | none => 4 | some r => if firstN l r.source = id then 0 else 7
def runLst (l : List Req) (id pod : Int) : List Req := match reqAt l id with | none => l | some r => if firstN l r.source = id then l.set (id - 1).toNat { r with fate := 2, pod := pod } else l
def doneErr (l : List Req) (id : Int) : Int := match reqAt l id with | none => 4 | some r => if r.fate = 2 then 0 else 7
def doneNum (l : List Req) (id : Int) : Int := match reqAt l id with | none => 0 | some r => if r.fate = 2 then r.pod else 0
def doneLst (l : List Req) (id : Int) : List Req := match reqAt l id with | none => l | some r => if r.fate = 2 then l.set (id - 1).toNat { r with fate := 3 } else l
end G
namespace G
def Numbered (l : List Req) : Prop := ∀ (k : Nat) (r : Req), l[k]? = some r → r.id = (k : Int) + 1 ∧ 0 ≤ r.source ∧ r.source < 6
def freeF (l : List Req) (r : Req) : Bool := (r.fate == 1) && (countF r.source 2 l == 0)
theorem countF_nn (s f : Int) (l : List Req) : 0 ≤ countF s f l := by unfold countF; omega
theorem firstN_is {l : List Req} {k : Nat} {r : Req} (hn : Numbered l) (hr : l[k]? = some r) : (firstN l r.source = (k : Int) + 1) ↔ (freeF l r && !((l.take k).any (waitsOf r.source))) = true := by
 have hp := countF_nn r.source 2 l
 unfold firstN freeF
 by_cases hc : 0 < countF r.source 2 l
 ·rw [if_pos hc]
  have h2 : (countF r.source 2 l == 0) = false := by simp only [beq_eq_false_iff_ne]; omega
  rw [h2]
  simp; omega
 rw [if_neg hc]
 have h2 : (countF r.source 2 l == 0) = true := by simp only [beq_iff_eq]; omega
 rw [h2, Bool.and_true]
 cases hf : firstAt (waitsOf r.source) l with
 | none =>
  have := firstAt_miss hf k r hr
  unfold waitsOf at this
  have h3 : (r.fate == 1) = false := by simpa using this
  rw [h3]; simp; omega
 | some i =>
  obtain ⟨a, h1, h2, h3⟩ := firstAt_spec hf
  simp only
  rw [h1]
  show a.id = _ ↔ _
  rw [(hn i a h1).1]
  constructor
  ·intro e
   have e' : i = k := by omega
   subst e'
   rw [hr] at h1; cases h1
   unfold waitsOf at h2
   have h4 : (r.fate == 1) = true := by simpa using h2
   rw [h4, Bool.true_and]
   have : (l.take i).any (waitsOf r.source) = false := by
    rw [List.any_eq_false]
    intro x hx
    obtain ⟨j, hj⟩ := List.mem_iff_getElem?.1 hx
    rw [List.getElem?_take] at hj
    split at hj
    ·rename_i hji; simp [h3 j x hji hj]
    cases hj
   rw [this]; rfl
  intro e
  rw [Bool.and_eq_true] at e
  obtain ⟨e1, e2⟩ := e
  have h5 : waitsOf r.source r = true := by unfold waitsOf; rw [e1]; simp
  have e3 : (l.take k).any (waitsOf r.source) = false := by simpa using e2
  rw [List.any_eq_false] at e3
  rcases Nat.lt_trichotomy i k with c | c | c
  ·exact absurd h2 (e3 a (List.mem_of_getElem? (i := i) (by rw [List.getElem?_take, if_pos c]; exact h1)))
  ·omega
  have := h3 k r c hr
  rw [h5] at this; cases this
end G
namespace G
structure Good (l : List Req) : Prop where
 num : Numbered l
 few : ∀ s : Int, 0 ≤ s → countF s 1 l ≤ 20
 all : countF (-1) 1 l ≤ 60
theorem Good.nil : Good [] := ⟨fun k r h => by simp at h, fun s _ => by simp [countF], by simp [countF]⟩
def Tame (l l' : List Req) : Prop := l'.length = l.length ∧ ∀ (k : Nat) (r' : Req), l'[k]? = some r' → ∃ r, l[k]? = some r ∧ r'.id = r.id ∧ r'.source = r.source ∧ r'.till = r.till ∧ (r'.fate = 1 → r.fate = 1)
theorem Tame.tail {a a' : Req} {l l' : List Req} (h : Tame (a :: l) (a' :: l')) : Tame l l' := ⟨by simpa using h.1, fun k r' hk => by
 obtain ⟨r, h1, h2⟩ := h.2 (k + 1) r' (by simpa using hk)
 exact ⟨r, by simpa using h1, h2⟩⟩
theorem Tame.count (s : Int) : ∀ {l l' : List Req}, Tame l l' → l'.countP (hasF s 1) ≤ l.countP (hasF s 1)
 | [], [], _ => Nat.le_refl _
 | [], a' :: l', h => by have := h.1; simp at this
 | a :: l, [], h => by have := h.1; simp at this
 | a :: l, a' :: l', h => by
  have ih := Tame.count s h.tail
  obtain ⟨r, h1, _, h2, _, h3⟩ := h.2 0 a' rfl
  simp at h1; subst h1
  rw [List.countP_cons, List.countP_cons]
  have : hasF s 1 a' = true → hasF s 1 a = true := by
   unfold hasF
   rw [h2, Bool.and_eq_true, Bool.and_eq_true]
   rintro ⟨e1, e2⟩
   exact ⟨by have := h3 (by simpa using e1); simpa using this, e2⟩
  cases ha : hasF s 1 a'
  ·simp; omega
  rw [this ha]; simp; omega
theorem tame_refl (l : List Req) : Tame l l := ⟨rfl, fun k r h => ⟨r, h, rfl, rfl, rfl, id⟩⟩
theorem tame_map (p : Req → Bool) (f : Int) (hf : f ≠ 1) (l : List Req) : Tame l (l.map (setF p f)) := ⟨by simp, fun k r' hk => by
 rw [List.getElem?_map] at hk
 obtain ⟨r, h1, rfl⟩ := Option.map_eq_some_iff.1 hk
 refine ⟨r, h1, ?_⟩
 unfold setF
 split
 ·exact ⟨rfl, rfl, rfl, fun e => absurd e hf⟩
 exact ⟨rfl, rfl, rfl, id⟩⟩
theorem tame_set {l : List Req} {k : Nat} {r q : Req} (hr : l[k]? = some r) (h1 : q.id = r.id) (h2 : q.source = r.source) (h3 : q.till = r.till) (h4 : q.fate ≠ 1) : Tame l (l.set k q) := ⟨by simp, fun j r' hj => by
 by_cases e : k = j
 ·subst e
  rw [List.getElem?_set_self (get_lt hr)] at hj
  cases hj
  exact ⟨r, hr, h1, h2, h3, fun e => absurd e h4⟩
 rw [List.getElem?_set_ne e] at hj
 exact ⟨r', hj, rfl, rfl, rfl, id⟩⟩
theorem tame_late (l : List Req) (x : Int) : Tame l (lateLst l x) := by
 unfold lateLst; split
 ·exact tame_map _ _ (by decide) l
 exact tame_refl l
theorem tame_lost (l : List Req) (x : Int) : Tame l (lostLst l x) := tame_map _ _ (by decide) l
theorem reqAt_get {l : List Req} {id : Int} {r : Req} (h : reqAt l id = some r) : l[(id - 1).toNat]? = some r := by
 unfold reqAt at h; split at h
 ·exact h
 cases h
theorem tame_run (l : List Req) (id pod : Int) : Tame l (runLst l id pod) := by
 unfold runLst
 cases h : reqAt l id with
 | none => exact tame_refl l
 | some r =>
  simp only
  split
  ·exact tame_set (reqAt_get h) rfl rfl rfl (show (2 : Int) ≠ 1 by decide)
  exact tame_refl l
theorem tame_done (l : List Req) (id : Int) : Tame l (doneLst l id) := by
 unfold doneLst
 cases h : reqAt l id with
 | none => exact tame_refl l
 | some r =>
  simp only
  split
  ·exact tame_set (reqAt_get h) rfl rfl rfl (show (3 : Int) ≠ 1 by decide)
  exact tame_refl l
theorem Good.ask {l : List Req} (h : Good l) (now src ticks : Int) : Good (askLst l now src ticks) := by
 unfold askLst
 split
 ·rename_i he
  unfold askErr at he
  split at he
  ·cases he
  split at he
  ·cases he
  split at he
  ·cases he
  rename_i h1 h2 h3
  have hs := h.few src (by omega)
  refine ⟨fun k r hk => ?_, fun s hs => ?_, ?_⟩
  ·rcases Nat.lt_trichotomy k l.length with c | c | c
   ·rw [List.getElem?_append_left c] at hk; exact h.num k r hk
   ·subst c
    rw [List.getElem?_append_right (Nat.le_refl _), Nat.sub_self] at hk
    simp at hk; subst hk
    exact ⟨rfl, by simp only; omega, by simp only; omega⟩
   rw [List.getElem?_eq_none (by simp; omega)] at hk; cases hk
  ·have e := h.few s hs
   unfold countF at *
   rw [List.countP_append, List.countP_singleton]
   by_cases c : src = s
   ·subst c; simp [hasF]; omega
   have : hasF s 1 ⟨l.length + 1, src, now + ticks, 1, 0⟩ = false := by unfold hasF; simp [c]; omega
   rw [this]; simpa using e
  have e := h.all
  unfold countF at *
  rw [List.countP_append, List.countP_singleton]
  have : hasF (-1) 1 ⟨l.length + 1, src, now + ticks, 1, 0⟩ = true := by unfold hasF; simp
  rw [this]; simp; omega
 exact h
theorem firstN_pos {l : List Req} {s : Int} (hn : Numbered l) (h : 0 < firstN l s) : ∃ (j : Nat) (r : Req), l[j]? = some r ∧ firstN l s = (j : Int) + 1 ∧ freeF l r = true ∧ r.source = s := by
 have hp := countF_nn s 2 l
 unfold firstN at h ⊢
 by_cases hc : 0 < countF s 2 l
 ·rw [if_pos hc] at h; omega
 rw [if_neg hc] at h ⊢
 cases hf : firstAt (waitsOf s) l with
 | none => rw [hf] at h; simp at h
 | some i =>
  obtain ⟨a, h1, h2, h3⟩ := firstAt_spec hf
  refine ⟨i, a, h1, ?_, ?_⟩
  ·simp only; rw [h1]; exact (hn i a h1).1
  unfold waitsOf at h2
  rw [Bool.and_eq_true] at h2
  have e : a.source = s := by simpa using h2.1
  refine ⟨?_, e⟩
  unfold freeF
  rw [h2.2, e]
  simp; omega
theorem best_succ' (l : List Req) (k : Nat) : (List.range (k + 1)).foldl (bestStep l) 0 = bestStep l ((List.range k).foldl (bestStep l) 0) k := by
 rw [List.range_succ, List.foldl_append]; rfl
theorem best_inv (l : List Req) : ∀ k : Nat, ((List.range k).foldl (bestStep l) 0 = 0 ∧ ∀ s : Nat, s < k → ¬ 0 < firstN l s) ∨ (0 < (List.range k).foldl (bestStep l) 0 ∧ (∃ s : Nat, s < k ∧ firstN l s = (List.range k).foldl (bestStep l) 0) ∧ ∀ s : Nat, s < k → 0 < firstN l s → (List.range k).foldl (bestStep l) 0 ≤ firstN l s)
 | 0 => .inl ⟨rfl, fun s h => by omega⟩
 | k + 1 => by
  have ih := best_inv l k
  rw [best_succ']
  generalize (List.range k).foldl (bestStep l) 0 = b at ih ⊢
  unfold bestStep
  by_cases c : 0 < firstN l k ∧ (b = 0 ∨ firstN l k < b)
  ·rw [if_pos c]
   refine .inr ⟨c.1, ⟨k, by omega, rfl⟩, fun s hs hp => ?_⟩
   rcases Nat.lt_succ_iff_lt_or_eq.1 hs with h | h
   ·rcases ih with ⟨h1, h2⟩ | ⟨h1, h2, h3⟩
    ·exact absurd hp (h2 s h)
    have := h3 s h hp; omega
   subst h; exact Int.le_refl _
  rw [if_neg c]
  rcases ih with ⟨h1, h2⟩ | ⟨h1, ⟨s0, h2, h4⟩, h3⟩
  ·refine .inl ⟨h1, fun s hs => ?_⟩
   rcases Nat.lt_succ_iff_lt_or_eq.1 hs with h | h
   ·exact h2 s h
   subst h; omega
  refine .inr ⟨h1, ⟨s0, by omega, h4⟩, fun s hs hp => ?_⟩
  rcases Nat.lt_succ_iff_lt_or_eq.1 hs with h | h
  ·exact h3 s h hp
  subst h; omega
end G
namespace G
def Step (a r : Req) : Prop := r.source = a.source ∧ r.till = a.till ∧ (a.fate = r.fate ∨ a.fate = 1 ∧ r.fate = 2 ∨ a.fate = 1 ∧ r.fate = 4 ∨ a.fate = 2 ∧ r.fate = 3 ∨ a.fate = 2 ∧ r.fate = 5)
def Steps (l l' : List Req) : Prop := l.length ≤ l'.length ∧ ∀ (k : Nat) (a : Req), l[k]? = some a → ∃ r, l'[k]? = some r ∧ Step a r
structure Fair (l : List Req) : Prop where
 num : Numbered l
 one : ∀ s : Int, countF s 2 l ≤ 1 ∨ s < 0
 first : ∀ (i : Nat) (r : Req), l[i]? = some r → r.fate = 2 → ∀ (j : Nat) (x : Req), j < i → l[j]? = some x → waitsOf r.source x = false
theorem Fair.nil : Fair [] := ⟨fun k r h => by simp at h, fun s => .inl (by simp [countF]), fun i r h => by simp at h⟩
theorem Step.refl (a : Req) : Step a a := ⟨rfl, rfl, .inl rfl⟩
theorem Steps.refl (l : List Req) : Steps l l := ⟨Nat.le_refl _, fun k a h => ⟨a, h, Step.refl a⟩⟩
theorem count_le {p q : Req → Bool} : ∀ {l l' : List Req}, l'.length = l.length → (∀ (k : Nat) (r' : Req), l'[k]? = some r' → ∃ r, l[k]? = some r ∧ (p r' = true → q r = true)) → l'.countP p ≤ l.countP q
 | [], [], _, _ => Nat.le_refl _
 | [], a' :: l', h, _ => by simp at h
 | a :: l, [], h, _ => by simp at h
 | a :: l, a' :: l', h, hk => by
  have ih := count_le (l := l) (l' := l') (p := p) (q := q) (by simpa using h) (fun k r' hr => by
   obtain ⟨r, h1, h2⟩ := hk (k + 1) r' (by simpa using hr)
   exact ⟨r, by simpa using h1, h2⟩)
  obtain ⟨r, h1, h2⟩ := hk 0 a' rfl
  simp at h1; subst h1
  rw [List.countP_cons, List.countP_cons]
  cases ha : p a'
  ·simp; omega
  rw [h2 ha]; simp; omega
theorem Fair.calm {l l' : List Req} (h : Fair l) (hl : l'.length = l.length) (hk : ∀ (k : Nat) (r' : Req), l'[k]? = some r' → ∃ r, l[k]? = some r ∧ r'.id = r.id ∧ r'.source = r.source ∧ (r'.fate = 1 → r.fate = 1) ∧ (r'.fate = 2 → r.fate = 2)) : Fair l' := by
 refine ⟨fun k r' hr => ?_, fun s => ?_, fun i r' hi hf j x' hj hx => ?_⟩
 ·obtain ⟨r, h1, h2, h3, _⟩ := hk k r' hr
  rw [h2, h3]; exact h.num k r h1
 ·rcases h.one s with h1 | h1
  ·refine .inl ?_
   have := count_le (p := hasF s 2) (q := hasF s 2) hl (fun k r' hr => by
    obtain ⟨r, e1, _, e3, _, e5⟩ := hk k r' hr
    refine ⟨r, e1, ?_⟩
    unfold hasF
    rw [e3, Bool.and_eq_true, Bool.and_eq_true]
    rintro ⟨f1, f2⟩
    exact ⟨by have := e5 (by simpa using f1); simpa using this, f2⟩)
   unfold countF at *; omega
  exact .inr h1
 obtain ⟨r, h1, _, h3, _, h5⟩ := hk i r' hi
 obtain ⟨x, f1, _, f3, f4, _⟩ := hk j x' hx
 have := h.first i r h1 (h5 hf) j x hj f1
 rw [h3]
 unfold waitsOf at this ⊢
 rw [f3]
 cases hs : (x.source == r.source)
 ·rfl
 rw [hs, Bool.true_and] at this
 rw [Bool.true_and]
 simp only [beq_eq_false_iff_ne] at this ⊢
 exact fun e => this (f4 e)
theorem Fair.map {l : List Req} (h : Fair l) (p : Req → Bool) (f : Int) (h1 : f ≠ 1) (h2 : f ≠ 2) : Fair (l.map (setF p f)) := by
 refine h.calm (by simp) fun k r' hk => ?_
 rw [List.getElem?_map] at hk
 obtain ⟨r, e1, rfl⟩ := Option.map_eq_some_iff.1 hk
 refine ⟨r, e1, ?_⟩
 unfold setF
 split
 ·exact ⟨rfl, rfl, fun e => absurd e h1, fun e => absurd e h2⟩
 exact ⟨rfl, rfl, id, id⟩
theorem steps_map {l : List Req} (p : Req → Bool) (f : Int) (hp : ∀ r, p r = true → Step r { r with fate := f }) : Steps l (l.map (setF p f)) := by
 refine ⟨by simp, fun k a ha => ⟨setF p f a, by rw [List.getElem?_map, ha]; rfl, ?_⟩⟩
 unfold setF
 split
 ·rename_i e; exact hp a e
 exact Step.refl a
theorem fair_late {l : List Req} (h : Fair l) (x : Int) : Fair (lateLst l x) ∧ Steps l (lateLst l x) := by
 unfold lateLst; split
 ·refine ⟨h.map _ _ (by decide) (by decide), steps_map _ _ fun r hr => ⟨rfl, rfl, ?_⟩⟩
  unfold isLate at hr
  rw [Bool.and_eq_true] at hr
  exact .inr (.inr (.inl ⟨by simpa using hr.1, rfl⟩))
 exact ⟨h, Steps.refl l⟩
theorem fair_lost {l : List Req} (h : Fair l) (x : Int) : Fair (lostLst l x) ∧ Steps l (lostLst l x) := by
 refine ⟨h.map _ _ (by decide) (by decide), steps_map _ _ fun r hr => ⟨rfl, rfl, ?_⟩⟩
 unfold isLost at hr
 rw [Bool.and_eq_true] at hr
 exact .inr (.inr (.inr (.inr ⟨by simpa using hr.1, rfl⟩)))
theorem set_get {l : List Req} {k : Nat} {r q : Req} (hr : l[k]? = some r) {j : Nat} {x : Req} (hx : (l.set k q)[j]? = some x) : (j = k ∧ x = q) ∨ (j ≠ k ∧ l[j]? = some x) := by
 by_cases e : k = j
 ·subst e
  rw [List.getElem?_set_self (get_lt hr)] at hx
  exact .inl ⟨rfl, (Option.some.inj hx).symm⟩
 rw [List.getElem?_set_ne e] at hx
 exact .inr ⟨fun c => e c.symm, hx⟩
theorem steps_set {l : List Req} {k : Nat} {r q : Req} (hr : l[k]? = some r) (h : Step r q) : Steps l (l.set k q) := by
 refine ⟨by simp, fun j a ha => ?_⟩
 by_cases e : k = j
 ·subst e
  rw [hr] at ha; cases ha
  exact ⟨q, List.getElem?_set_self (get_lt hr), h⟩
 exact ⟨a, by rw [List.getElem?_set_ne e]; exact ha, Step.refl a⟩
theorem fair_done {l : List Req} (h : Fair l) (id : Int) : Fair (doneLst l id) ∧ Steps l (doneLst l id) := by
 unfold doneLst
 cases hq : reqAt l id with
 | none => exact ⟨h, Steps.refl l⟩
 | some r =>
  simp only
  split
  ·rename_i hf
   have hr := reqAt_get hq
   refine ⟨h.calm (by simp) fun k r' hk => ?_, steps_set hr ⟨rfl, rfl, .inr (.inr (.inr (.inl ⟨hf, rfl⟩)))⟩⟩
   rcases set_get hr hk with ⟨rfl, rfl⟩ | ⟨_, h1⟩
   ·exact ⟨r, hr, rfl, rfl, fun e => absurd e (show (3 : Int) ≠ 1 by decide), fun e => absurd e (show (3 : Int) ≠ 2 by decide)⟩
   exact ⟨r', h1, rfl, rfl, fun e => e, fun e => e⟩
  exact ⟨h, Steps.refl l⟩
theorem fair_run {l : List Req} (h : Fair l) (id pod : Int) : Fair (runLst l id pod) ∧ Steps l (runLst l id pod) := by
 unfold runLst
 cases hq : reqAt l id with
 | none => exact ⟨h, Steps.refl l⟩
 | some r =>
  simp only
  split
  ·rename_i hf
   have hr := reqAt_get hq
   have hid : id = ((id - 1).toNat : Int) + 1 := by
    unfold reqAt at hq; split at hq
    ·omega
    cases hq
   rw [hid] at hf
   generalize (id - 1).toNat = k at hr hf
   rw [firstN_is h.num hr, Bool.and_eq_true] at hf
   obtain ⟨f1, f2⟩ := hf
   unfold freeF at f1
   rw [Bool.and_eq_true] at f1
   have hf1 : r.fate = 1 := by simpa using f1.1
   have hc0 : countF r.source 2 l = 0 := by simpa using f1.2
   have hno : ∀ (j : Nat) (x : Req), j < k → l[j]? = some x → waitsOf r.source x = false := fun j x hj hx => by
    have e3 : (l.take k).any (waitsOf r.source) = false := by simpa using f2
    rw [List.any_eq_false] at e3
    have := e3 x (List.mem_of_getElem? (i := j) (by rw [List.getElem?_take, if_pos hj]; exact hx))
    simpa using this
   refine ⟨⟨fun j x hx => ?_, fun s => ?_, fun i x hi hxf j y hj hy => ?_⟩, steps_set hr ⟨rfl, rfl, .inr (.inl ⟨hf1, rfl⟩)⟩⟩
   ·rcases set_get hr hx with ⟨rfl, rfl⟩ | ⟨_, h1⟩
    ·exact h.num j r hr
    exact h.num j x h1
   ·rcases h.one s with h1 | h1
    ·by_cases hs : 0 ≤ s
     ·refine .inl ?_
      by_cases e : r.source = s
      ·subst e
       have := List.countP_set (p := hasF r.source 2) (a := { r with fate := 2, pod := pod }) (get_lt hr)
       unfold countF at *
       rw [this]
       split <;> split <;> omega
      have : (l.set k { r with fate := 2, pod := pod }).countP (hasF s 2) ≤ l.countP (hasF s 2) := count_le (by simp) fun j x hx => by
       rcases set_get hr hx with ⟨rfl, rfl⟩ | ⟨_, h1⟩
       ·refine ⟨r, hr, fun c => ?_⟩
        unfold hasF at c
        rw [Bool.and_eq_true, Bool.or_eq_true] at c
        rcases c.2 with c2 | c2
        ·simp at c2; omega
        simp at c2; exact absurd c2 e
       exact ⟨x, h1, fun e => e⟩
      unfold countF at *; omega
     exact .inr (by omega)
    exact .inr h1
   have hy' : l[j]? = some y ∨ y.fate = 2 := by
    rcases set_get hr hy with ⟨_, rfl⟩ | ⟨_, h1⟩
    ·exact .inr rfl
    exact .inl h1
   have hw2 : y.fate = 2 → ∀ s, waitsOf s y = false := fun e s => by unfold waitsOf; rw [e]; simp
   rcases hy' with hy' | hy'
   ·rcases set_get hr hi with ⟨rfl, rfl⟩ | ⟨_, h1⟩
    ·exact hno j y hj hy'
    exact h.first i x h1 hxf j y hj hy'
   exact hw2 hy' _
  exact ⟨h, Steps.refl l⟩
theorem fair_ask {l : List Req} (h : Fair l) (now src ticks : Int) : Fair (askLst l now src ticks) ∧ Steps l (askLst l now src ticks) := by
 unfold askLst
 split
 ·rename_i he
  unfold askErr at he
  split at he
  ·cases he
  split at he
  ·cases he
  rename_i h1 h2
  have hg : ∀ (k : Nat) (x : Req), (l ++ [⟨l.length + 1, src, now + ticks, 1, 0⟩])[k]? = some x → (k < l.length ∧ l[k]? = some x) ∨ (k = l.length ∧ x = ⟨l.length + 1, src, now + ticks, 1, 0⟩) := fun k x hk => by
   rcases Nat.lt_trichotomy k l.length with c | c | c
   ·rw [List.getElem?_append_left c] at hk; exact .inl ⟨c, hk⟩
   ·subst c
    rw [List.getElem?_append_right (Nat.le_refl _), Nat.sub_self] at hk
    simp at hk; exact .inr ⟨rfl, hk.symm⟩
   rw [List.getElem?_eq_none (by simp; omega)] at hk; cases hk
  refine ⟨⟨fun k r hk => ?_, fun s => ?_, fun i r hi hf j x hj hx => ?_⟩, by simp, fun k a ha => ⟨a, ?_, Step.refl a⟩⟩
  ·rcases hg k r hk with ⟨_, e⟩ | ⟨rfl, rfl⟩
   ·exact h.num k r e
   exact ⟨rfl, by simp only; omega, by simp only; omega⟩
  ·rcases h.one s with e | e
   ·refine .inl ?_
    unfold countF at *
    rw [List.countP_append, List.countP_singleton]
    have : hasF s 2 ⟨l.length + 1, src, now + ticks, 1, 0⟩ = false := by unfold hasF; simp
    rw [this]; simpa using e
   exact .inr e
  ·rcases hg i r hi with ⟨c, e⟩ | ⟨_, rfl⟩
   ·rcases hg j x hx with ⟨_, e2⟩ | ⟨c2, _⟩
    ·exact h.first i r e hf j x hj e2
    omega
   exact absurd hf (show (1 : Int) ≠ 2 by decide)
  rw [List.getElem?_append_left (get_lt ha)]; exact ha
 exact ⟨h, Steps.refl l⟩
end G
namespace Go.Proofs.YtoidcbpcnikejaaGreatDoor
open Go.RowKit
theorem info_req : (Tryz.prog.info? 181).map (fun i => (i.zero, i.size, i.bytes)) = some (some (.agg #[.int .i64 0, .int .i64 0, .int .i64 0, .int .i64 0, .int .i64 0]), 5, 40) := by kernel_rfl
structure BAt (T : TypeId) (S : Nat → Prop) (w : World) (g : Nat) (v : Value) (l : List G.Req) : Prop where
 head : G.At w g T #[v]
 row : G.OwnRow S w 181 5 v l.length (l.flatMap G.Req.enc)
 own : S g
 small : l.length ≤ 200
 lim : ∀ b, S b → b < w.heap.size
theorem BAt.chg {T : TypeId} {S C : Nat → Prop} {w w' : World} {g : Nat} {v : Value} {l : List G.Req} (h : BAt T S w g v l) (hc : G.Chg C w w') (hs : ∀ b, S b → ¬ C b) : BAt T S w' g v l :=
 ⟨h.head.chg hc (hs g h.own), h.row.chg hc hs, h.own, h.small, fun b hb => Nat.lt_of_lt_of_le (h.lim b hb) hc.size⟩
theorem BAt.below {T : TypeId} {S : Nat → Prop} {w w' : World} {g : Nat} {v : Value} {l : List G.Req} (h : BAt T S w g v l) (hb : Below w.heap.size w w') : BAt T S w' g v l :=
 h.chg (C := fun _ => False) (G.Chg.of_below hb (Nat.le_refl _)) (fun _ _ h => h)
theorem BAt.mono {T : TypeId} {S S' : Nat → Prop} {w : World} {g : Nat} {v : Value} {l : List G.Req} (h : BAt T S w g v l) (hs : ∀ b, b < w.heap.size → S b → S' b) (hl : ∀ b, S' b → b < w.heap.size) : BAt T S' w g v l :=
 ⟨h.head, h.row.mono hs, hs g h.head.inside h.own, h.small, hl⟩
theorem BAt.up {T : TypeId} {S : Nat → Prop} {w0 w : World} {g : Nat} {v : Value} {l : List G.Req} (h : BAt T S w g v l) : BAt T (G.Plus S w0 w) w g v l :=
 h.mono (fun _ _ hb => .inl hb) (fun b hb => by rcases hb with hb | hb; exact h.lim b hb; exact hb.2)
theorem BAt.alloc {T : TypeId} {S : Nat → Prop} {w : World} {g : Nat} {v : Value} {l : List G.Req} (h : BAt T S w g v l) (o : Obj) : BAt T S (w.alloc o) g v l :=
 ⟨h.head.alloc o, h.row.alloc o, h.own, h.small, fun b hb => by simp; have := h.lim b hb; omega⟩
theorem BAt.drew {T : TypeId} {S : Nat → Prop} {w : World} {g : Nat} {v : Value} {l : List G.Req} (h : BAt T S w g v l) : BAt T S w.drew g v l := ⟨h.head.drew, h.row.drew, h.own, h.small, h.lim⟩
theorem BAt.req {T : TypeId} {S : Nat → Prop} {w : World} {g : Nat} {v : Value} {l : List G.Req} (h : BAt T S w g v l) {k : Nat} {r : G.Req} (hk : l[k]? = some r) :
  ∃ b cap, v = .slice (some ⟨b, 0, none⟩) l.length cap ∧ S b ∧ l.length ≤ cap ∧ cap ≤ maxLen ∧ b < w.heap.size ∧ w.cell? ⟨b, k * 5, none⟩ = some (.int .i64 r.id) ∧ w.cell? ⟨b, k * 5 + 1, none⟩ = some (.int .i64 r.source) ∧ w.cell? ⟨b, k * 5 + 2, none⟩ = some (.int .i64 r.till) ∧
   w.cell? ⟨b, k * 5 + 3, none⟩ = some (.int .i64 r.fate) ∧ w.cell? ⟨b, k * 5 + 4, none⟩ = some (.int .i64 r.pod) ∧ (∀ i, w.frozen? ⟨b, i, none⟩ = false) := by
 obtain ⟨b, cap, e, hS, h1, h2, h3⟩ := h.row.form (by have := G.get_lt hk; omega)
 exact ⟨b, cap, e, hS, h1, h2, h3.inside, h3.cell (G.flat_get (j := 0) G.Req.enc_length hk rfl), h3.cell (G.flat_get (j := 1) G.Req.enc_length hk rfl), h3.cell (G.flat_get (j := 2) G.Req.enc_length hk rfl), h3.cell (G.flat_get (j := 3) G.Req.enc_length hk rfl), h3.cell (G.flat_get (j := 4) G.Req.enc_length hk rfl), h3.soft⟩
theorem BAt.apart {T : TypeId} {S : Nat → Prop} {w : World} {g : Nat} {v : Value} {l : List G.Req} (h : BAt T S w g v l) (hT : T ≠ 181) : ∀ b, v.ownBlock = some b → b ≠ g := h.row.apartAt h.head (Ne.symm hT)
theorem BAt.put {T : TypeId} {S : Nat → Prop} {w : World} {g b cap n : Nat} {l : List G.Req} (h : BAt T S w g (.slice (some ⟨b, 0, none⟩) n cap) l) (hT : T ≠ 181) {k j : Nat} {r r' : G.Req} {u : Value} (hk : l[k]? = some r) (hj : j < 5) (hu : r.enc.set j u = r'.enc) :
  BAt T S (w.setCell ⟨b, k * 5 + j, none⟩ u) g (.slice (some ⟨b, 0, none⟩) n cap) (l.set k r') ∧ G.Chg S w (w.setCell ⟨b, k * 5 + j, none⟩ u) := by
 have hkl := G.get_lt hk
 obtain ⟨b', cap', e, hS, _⟩ := h.row.form (by omega)
 cases e
 have hgb : b ≠ g := h.apart hT b rfl
 have p1 := h.row.put (G.flat_lt G.Req.enc_length hkl hj) u
 rw [G.flat_set G.Req.enc_length hk hj hu] at p1
 refine ⟨⟨h.head.other (p := ⟨b, k * 5 + j, none⟩) (Ne.symm hgb) _, ?_, h.own, by rw [List.length_set]; exact h.small, fun c hc => by rw [G.size_put]; exact h.lim c hc⟩, (G.Chg.refl S w).put (p := ⟨b, k * 5 + j, none⟩) (.inl hS) _⟩
 rw [List.length_set]; exact p1
def ReadPost (w : World) (v : Value) (e : Ending) (w' : World) : Prop := e = .returned v ∧ Below w.heap.size w w'
theorem bufCount (S : Nat → Prop) (g : Nat) (v : Value) (l : List G.Req) (src fate : Int) (w : World) (h : BAt 229 S w g v l) :
  Calls Tryz.prog 140 #[.pointer (some ⟨g, 0, none⟩), .int .i64 src, .int .i64 fate] w (ReadPost w (.int .i64 (G.countF src fate l))) := by
 obtain ⟨A, cap, rfl, _, _, _⟩ := h.row.slice
 have hc := h.head.here (i := 0) rfl
 have hs := h.small
 have HH := J h
 clear h
 go_enter Tryz.func140, Tryz.ntmps140
 go_wp2_with fail
 go_loopw [7, 15] (fun n i wr => ∃ k : Nat, k ≤ l.length ∧ i = .int .i64 k ∧ n = .int .i64 (((l.take k).countP (G.hasF src fate) : Nat) : Int) ∧ Below w.heap.size w wr) (fun _ i _ => l.length - (intOf i).toNat)
 case atStart => exact ⟨0, by omega, rfl, by simp, Below.refl _ _⟩
 clear hc
 obtain ⟨k, hk, rfl, rfl, hb⟩ := hrel
 by_cases hlt : k < l.length
 ·obtain ⟨r, hr⟩ := G.get_some l hlt
  obtain ⟨b, cap', e, hS, _, _, hbl, c0, c1, c2, c3, c4, _⟩ := (HH.u.below hb).req hr
  cases e
  have i0 : (0 : Int) ≤ (k : Int) := by omega
  have i1 : (k : Int) < (l.length : Int) := by omega
  have HC := J (G.count_snoc (p := G.hasF src fate) hr)
  have hle : (l.take k).countP (G.hasF src fate) ≤ 200 := Nat.le_trans List.countP_le_length (by rw [List.length_take]; omega)
  generalize (l.take k).countP (G.hasF src fate) = N at HC hle ⊢
  have hle' : (N : Int) ≤ 200 := by omega
  have HB := J (hb.alloc hb.size (.cells #[.int .i64 r.id, .int .i64 r.source, .int .i64 r.till, .int .i64 r.fate, .int .i64 r.pod] 181))
  clear hr hb hle
  cases hf : (r.fate == fate)
  ·have HT := J (show G.hasF src fate r = false by unfold G.hasF; rw [hf]; rfl)
   go_wp2_with fail
   go_roundw
   case rel => exact ⟨k + 1, by omega, by go_num, by rw [HC.u, HT.u]; go_num, HB.u⟩
   case measure => simp [intOf]; omega
  by_cases hsrc : src < 0
  ·have HT := J (show G.hasF src fate r = true by unfold G.hasF; rw [hf]; simp [hsrc])
   go_wp2_with fail
   go_roundw
   case rel => exact ⟨k + 1, by omega, by go_num, by rw [HC.u, HT.u]; go_num, HB.u⟩
   case measure => simp [intOf]; omega
  have hsrc' : 0 ≤ src := by omega
  cases hg : (r.source == src)
  ·have HT := J (show G.hasF src fate r = false by unfold G.hasF; rw [hf, hg]; simp [hsrc])
   clear hsrc
   go_wp2_with fail
   go_roundw
   case rel => exact ⟨k + 1, by omega, by go_num, by rw [HC.u, HT.u]; go_num, HB.u⟩
   case measure => simp [intOf]; omega
  have HT := J (show G.hasF src fate r = true by unfold G.hasF; rw [hf, hg]; simp)
  clear hsrc
  go_wp2_with fail
  go_roundw
  case rel => exact ⟨k + 1, by omega, by go_num, by rw [HC.u, HT.u]; go_num, HB.u⟩
  case measure => simp [intOf]; omega
 have hke : k = l.length := by omega
 subst hke
 have HB := J hb
 clear hb
 rw [List.take_length]
 go_wp2_with fail
 go_ret
 exact ⟨rfl, HB.u⟩
end Go.Proofs.YtoidcbpcnikejaaGreatDoor
