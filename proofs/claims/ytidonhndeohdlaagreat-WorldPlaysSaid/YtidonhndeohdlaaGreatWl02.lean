/- Parts of this claim: QueM, FleM, FleN, BufM, BufN, BufP. -/
import Derived.Test.YtidonhndeohdlaaGreatWl01
set_option linter.unusedVariables false
set_option linter.unusedSimpArgs false
set_option maxRecDepth 100000
set_option maxHeartbeats 12800000
namespace G
open Go
structure Msg where
 id : Int
 till : Int
 taken : Bool
 deriving DecidableEq
def Msg.enc (m : Msg) : List Value := [.int .i64 m.id, .int .i64 m.till, .bool m.taken]
theorem Msg.enc_length (m : Msg) : m.enc.length = 3 := rfl
def back (now : Int) (m : Msg) : Msg := if m.taken && decide (m.till ≤ now) then ⟨m.id, 0, false⟩ else m
def newMsgs (last : Int) (n : Nat) : List Msg := (List.range n).map fun i : Nat => ⟨last + 1 + (i : Int), 0, false⟩
theorem newMsgs_length (last : Int) (n : Nat) : (newMsgs last n).length = n := by simp [newMsgs]
theorem newMsgs_succ (last : Int) (n : Nat) : newMsgs last (n + 1) = newMsgs last n ++ [⟨last + 1 + n, 0, false⟩] := by simp [newMsgs, List.range_succ]
def nowOk (now : Int) : Bool := decide (0 ≤ now) && decide (now ≤ 1099511627776)
def free (m : Msg) : Bool := !m.taken
def backAll (now : Int) (l : List Msg) : List Msg := l.map (back now)
def putNum (l : List Msg) (last n : Int) : Int := if n < 1 then 0 else if 200 < n + l.length then 0 else last + 1
def putErr (l : List Msg) (n : Int) : Int := if n < 1 then 1 else if 200 < n + l.length then 6 else 0
def putLst (l : List Msg) (last n : Int) : List Msg := if n < 1 then l else if 200 < n + l.length then l else l ++ newMsgs last n.toNat
def putLast (l : List Msg) (last n : Int) : Int := if n < 1 then last else if 200 < n + l.length then last else last + n
def leaseOk (now ticks : Int) : Bool := decide (1 ≤ ticks) && decide (ticks ≤ 100000) && nowOk now
def leaseNum (l : List Msg) (now ticks : Int) : Int := if leaseOk now ticks then (match firstAt free (backAll now l) with | none => 0 | some i => ((backAll now l)[i]?.map (·.id)).getD 0) else 0
def leaseErr (l : List Msg) (now ticks : Int) : Int := if leaseOk now ticks then (match firstAt free (backAll now l) with | none => 4 | some _ => 0) else 1
def lend (now ticks : Int) (m : Msg) : Msg := ⟨m.id, now + ticks, true⟩
def leaseLst (l : List Msg) (now ticks : Int) : List Msg := if leaseOk now ticks then (match firstAt free (backAll now l) with | none => backAll now l | some i => (backAll now l).modify i (lend now ticks)) else l
def isId (id : Int) (m : Msg) : Bool := m.id == id
def ackErr (l : List Msg) (now id : Int) : Int := if nowOk now then (match firstAt (isId id) (backAll now l) with | none => 4 | some i => match (backAll now l)[i]? with | some m => if m.taken then 0 else 7 | none => 4) else 1
def ackLst (l : List Msg) (now id : Int) : List Msg := if nowOk now then (match firstAt (isId id) (backAll now l) with | none => backAll now l | some i => match (backAll now l)[i]? with | some m => if m.taken then (backAll now l).eraseIdx i else backAll now l | none => backAll now l) else l
def nowLst (l : List Msg) (now : Int) : List Msg := if nowOk now then backAll now l else l
def nowErr (now : Int) : Int := if nowOk now then 0 else 1
def depthNum (l : List Msg) (now : Int) : Int := if nowOk now then ((backAll now l).countP free : Nat) else 0
def allLst (l : List Msg) (now : Int) : List Msg := if nowOk now then backAll now l else []
def Up (l : List Msg) : Prop := l.Pairwise (fun a b => a.id < b.id)
theorem back_id (now : Int) (m : Msg) : (back now m).id = m.id := by unfold back; split <;> rfl
theorem Up.backAll {l : List Msg} (h : Up l) (now : Int) : Up (backAll now l) := by
 unfold Up G.backAll
 rw [List.pairwise_map]
 exact h.imp fun {a b} hab => by rw [back_id, back_id]; exact hab
theorem Up.split {l : List Msg} (h : Up l) {i : Nat} {m : Msg} (hi : l[i]? = some m) : (∀ a ∈ l.take i, a.id < m.id) ∧ (∀ a ∈ l.drop (i + 1), m.id < a.id) := by
 have e : l = l.take i ++ (m :: l.drop (i + 1)) := by rw [← drop_of_get hi, List.take_append_drop]
 unfold Up at h
 rw [e, List.pairwise_append] at h
 obtain ⟨_, h2, h3⟩ := h
 rw [List.pairwise_cons] at h2
 exact ⟨fun a ha => h3 a ha m (by simp), fun a ha => h2.1 a ha⟩
def stays (id : Int) (m : Msg) : Bool := !(m.id == id && m.taken)
def ackStep (id e : Int) (m : Msg) : Int := if m.id == id then (if m.taken then 0 else 7) else e
def ackE (id : Int) (l : List Msg) : Int := l.foldl (ackStep id) 4
theorem ackE_snoc (id : Int) {l : List Msg} {k : Nat} {m : Msg} (h : l[k]? = some m) : ackE id (l.take (k + 1)) = ackStep id (ackE id (l.take k)) m := by
 unfold ackE; rw [take_of_get h, List.foldl_append]; rfl
theorem fold_none (id : Int) : ∀ (l : List Msg) (e : Int), (∀ a ∈ l, a.id ≠ id) → l.foldl (ackStep id) e = e
 | [], e, _ => rfl
 | a :: l, e, h => by
  have h1 : ackStep id e a = e := by unfold ackStep; have := h a (by simp); simp [this]
  rw [List.foldl_cons, h1]; exact fold_none id l e (fun b hb => h b (by simp [hb]))
theorem filter_all (id : Int) (l : List Msg) (h : ∀ a ∈ l, a.id ≠ id) : l.filter (stays id) = l := by
 rw [List.filter_eq_self]; intro a ha; unfold stays; have := h a ha; simp [this]
theorem ack_same {l : List Msg} (h : Up l) (id : Int) : ackE id l = (match firstAt (isId id) l with | none => 4 | some i => match l[i]? with | some m => if m.taken then 0 else 7 | none => 4) ∧
  l.filter (stays id) = (match firstAt (isId id) l with | none => l | some i => match l[i]? with | some m => if m.taken then l.eraseIdx i else l | none => l) := by
 cases hf : firstAt (isId id) l with
 | none =>
  have hn : ∀ a ∈ l, a.id ≠ id := fun a ha => by
   obtain ⟨k, hk, e⟩ := List.mem_iff_getElem.1 ha
   have := firstAt_miss hf k a (by rw [List.getElem?_eq_getElem hk, e])
   unfold isId at this; simpa using this
  exact ⟨fold_none id l 4 hn, filter_all id l hn⟩
 | some i =>
  obtain ⟨m, hm, hp, _⟩ := firstAt_spec hf
  have hmi : m.id = id := by unfold isId at hp; simpa using hp
  obtain ⟨h1, h2⟩ := h.split hm
  have n1 : ∀ a ∈ l.take i, a.id ≠ id := fun a ha => by have := h1 a ha; omega
  have n2 : ∀ a ∈ l.drop (i + 1), a.id ≠ id := fun a ha => by have := h2 a ha; omega
  have e : l = l.take i ++ (m :: l.drop (i + 1)) := by rw [← drop_of_get hm, List.take_append_drop]
  have hk : ackStep id 4 m = if m.taken then 0 else 7 := by unfold ackStep; simp [hmi]
  simp only [hm]
  constructor
  ·conv => lhs; rw [e]
   unfold ackE
   rw [List.foldl_append, fold_none id _ 4 n1, List.foldl_cons, hk, fold_none id _ _ n2]
  conv => lhs; rw [e]
  rw [List.filter_append, filter_all id _ n1, List.filter_cons, filter_all id _ n2]
  cases ht : m.taken
  ·have : stays id m = true := by unfold stays; simp [ht]
   simp only [this, if_true, Bool.false_eq_true, if_false]; exact e.symm
  have : stays id m = false := by unfold stays; simp [ht, hmi]
  simp only [this, Bool.false_eq_true, if_false, if_true]
  rw [List.eraseIdx_eq_take_drop_succ]
end G
namespace G
open Go
structure Pod where
 id : Int
 state : Int
 load : Int
 deriving DecidableEq
def Pod.enc (p : Pod) : List Value := [.int .i64 p.id, .int .i64 p.state, .int .i64 p.load]
theorem Pod.enc_length (p : Pod) : p.enc.length = 3 := rfl
def lives (p : Pod) : Bool := !(p.state == 4)
def liveN (l : List Pod) : Int := (l.countP lives : Nat)
def beats (less : Pod → Pod → Bool) (l : List Pod) (o : Option Nat) (p : Pod) : Bool := match o with | none => true | some j => match l[j]? with | none => true | some q => less p q
def pick (want : Pod → Bool) (less : Pod → Pod → Bool) (l : List Pod) : Nat → Option Nat
 | 0 => none
 | k + 1 => match l[k]? with
  | none => pick want less l k
  | some p => if want p && beats less l (pick want less l k) p then some k else pick want less l k
def best (st : Int) (less : Pod → Pod → Bool) (l : List Pod) : Option Nat := pick (fun p => p.state == st) less l l.length
def gtId (a b : Pod) : Bool := decide (b.id < a.id)
def ltBoth (a b : Pod) : Bool := decide (a.load < b.load) || ((a.load == b.load) && decide (b.id < a.id))
def ltLoad (a b : Pod) : Bool := decide (a.load < b.load)
def loadAt (l : List Pod) (i : Nat) : Int := ((l[i]?).map (·.load)).getD 0
def drainAt (l : List Pod) (i : Nat) : List Pod := match l[i]? with | none => l | some p => l.set i { p with state := 4 }
def fewerL (l : List Pod) : List Pod :=
 match best 1 gtId l with
 | some i => l.eraseIdx i
 | none => match best 2 gtId l with
  | some i => l.eraseIdx i
  | none => match best 3 ltBoth l with
   | some i => if loadAt l i = 0 then l.eraseIdx i else drainAt l i
   | none => l
def newPods (last : Int) (m : Nat) : List Pod := (List.range m).map fun (i : Nat) => ⟨last + 1 + (i : Int), 1, 0⟩
def thinN : Nat → List Pod → List Pod
 | 0, l => l
 | k + 1, l => thinN k (fewerL l)
def scaleErr (n : Int) : Int := if n < 0 ∨ 50 < n then 1 else 0
def scaleUp (l : List Pod) (n : Int) : Nat := if n < 0 ∨ 50 < n then 0 else (n - liveN l).toNat
def scaleDown (l : List Pod) (n : Int) : Nat := if n < 0 ∨ 50 < n then 0 else (liveN l - n).toNat
def scaleLst (l : List Pod) (last n : Int) : List Pod := thinN (scaleDown l n) (l ++ newPods last (scaleUp l n))
def scaleLast (l : List Pod) (last n : Int) : Int := last + scaleUp l n
def podIs (id : Int) (p : Pod) : Bool := p.id == id
def findP (l : List Pod) (id : Int) : Option Nat := firstAt (podIs id) l
def turnErr (l : List Pod) (id src : Int) : Int := match findP l id with | none => 4 | some i => match l[i]? with | none => 4 | some p => if p.state = src then 0 else 7
def turnLst (l : List Pod) (id src dst : Int) : List Pod := match findP l id with | none => l | some i => match l[i]? with | none => l | some p => if p.state = src then l.set i { p with state := dst } else l
def crashErr (l : List Pod) (id : Int) : Int := match findP l id with | none => 4 | some _ => 0
def crashNum (l : List Pod) (id : Int) : Int := match findP l id with | none => 0 | some i => loadAt l i
def crashLst (l : List Pod) (id : Int) : List Pod := match findP l id with | none => l | some i => l.eraseIdx i
def giveAt (l : List Pod) (most : Int) : Option Nat := match best 3 ltLoad l with | none => none | some i => if most ≤ loadAt l i then none else some i
def giveErr (l : List Pod) (most : Int) : Int := match giveAt l most with | none => 4 | some _ => 0
def giveNum (l : List Pod) (most : Int) : Int := match giveAt l most with | none => 0 | some i => ((l[i]?).map (·.id)).getD 0
def giveLst (l : List Pod) (most : Int) : List Pod := match giveAt l most with | none => l | some i => match l[i]? with | none => l | some p => l.set i { p with load := p.load + 1 }
def podDoneErr (l : List Pod) (id : Int) : Int := match findP l id with | none => 4 | some i => if loadAt l i = 0 then 7 else 0
def podDoneLst (l : List Pod) (id : Int) : List Pod :=
 match findP l id with
 | none => l
 | some i => match l[i]? with
  | none => l
  | some p => if p.load = 0 then l else if p.state = 4 ∧ p.load - 1 = 0 then l.eraseIdx i else l.set i { p with load := p.load - 1 }
structure Crewed (l : List Pod) (last most : Int) : Prop where
 up : l.Pairwise (fun a b => a.id < b.id)
 ids : ∀ p ∈ l, 1 ≤ p.id ∧ p.id ≤ last
 states : ∀ p ∈ l, 1 ≤ p.state ∧ p.state ≤ 4
 loads : ∀ p ∈ l, 0 ≤ p.load ∧ p.load ≤ most ∧ (0 < p.load → 3 ≤ p.state) ∧ (p.state = 4 → 0 < p.load)
 last0 : 0 ≤ last
theorem pick_lt {w : Pod → Bool} {f : Pod → Pod → Bool} {l : List Pod} : ∀ {k i : Nat}, pick w f l k = some i → i < k ∧ ∃ p, l[i]? = some p ∧ w p = true
 | 0, i, h => by cases h
 | k + 1, i, h => by
  unfold pick at h
  split at h
  ·have := pick_lt h; exact ⟨by omega, this.2⟩
  rename_i p hp
  by_cases hc : (w p && beats f l (pick w f l k) p) = true
  ·rw [if_pos hc] at h
   cases h
   rw [Bool.and_eq_true] at hc
   exact ⟨by omega, p, hp, hc.1⟩
  rw [if_neg hc] at h
  have := pick_lt h; exact ⟨by omega, this.2⟩
theorem pick_none {w : Pod → Bool} {f : Pod → Pod → Bool} {l : List Pod} : ∀ {k : Nat}, pick w f l k = none → ∀ (i : Nat) (p : Pod), i < k → l[i]? = some p → w p = false
 | 0, _, i, p, hi, _ => by omega
 | k + 1, h, i, p, hi, hp => by
  unfold pick at h
  split at h
  ·rename_i hn
   rcases Nat.lt_succ_iff_lt_or_eq.1 hi with c | c
   ·exact pick_none h i p c hp
   subst c; rw [hn] at hp; cases hp
  rename_i q hq
  by_cases hc : (w q && beats f l (pick w f l k) q) = true
  ·rw [if_pos hc] at h; cases h
  rw [if_neg hc] at h
  rcases Nat.lt_succ_iff_lt_or_eq.1 hi with c | c
  ·exact pick_none h i p c hp
  subst c
  rw [hq] at hp; cases hp
  rw [h] at hc
  cases hw : w p
  ·rfl
  rw [hw] at hc; exact absurd rfl hc
theorem pick_succ {w : Pod → Bool} {f : Pod → Pod → Bool} {l : List Pod} {k : Nat} {p : Pod} (hp : l[k]? = some p) :
  pick w f l (k + 1) = if w p && beats f l (pick w f l k) p then some k else pick w f l k := by
 conv => lhs; unfold pick
 rw [hp]
theorem pick_congr {w : Pod → Bool} {f g : Pod → Pod → Bool} {l : List Pod} (h : ∀ (i j : Nat) (p q : Pod), j < i → l[i]? = some p → l[j]? = some q → f p q = g p q) : ∀ k, pick w f l k = pick w g l k
 | 0 => rfl
 | k + 1 => by
  have ih := pick_congr (w := w) h k
  cases hp : l[k]? with
  | none => unfold pick; rw [hp]; exact ih
  | some p =>
   rw [pick_succ hp, pick_succ hp, ih]
   cases hj : pick w g l k with
   | none => rfl
   | some j =>
    obtain ⟨hlt, q, hq, _⟩ := pick_lt hj
    simp only [beats, hq]
    rw [h k j p q hlt hp hq]
def anyOf (a b : Pod) : Bool := true
def leLoad (a b : Pod) : Bool := decide (a.load ≤ b.load)
theorem up_get {l : List Pod} (h : l.Pairwise (fun a b => a.id < b.id)) {i j : Nat} {p q : Pod} (hj : j < i) (hp : l[i]? = some p) (hq : l[j]? = some q) : q.id < p.id := by
 rw [List.pairwise_iff_getElem] at h
 have h1 := get_lt hp; have h2 := get_lt hq
 rw [List.getElem?_eq_getElem h1] at hp; rw [List.getElem?_eq_getElem h2] at hq
 cases hp; cases hq
 exact h j i h2 h1 hj
theorem best_gt {l : List Pod} (h : l.Pairwise (fun a b => a.id < b.id)) (st : Int) : best st gtId l = pick (fun p => p.state == st) anyOf l l.length :=
 pick_congr (fun i j p q hj hp hq => by unfold gtId anyOf; simp [up_get h hj hp hq]) _
theorem best_both {l : List Pod} (h : l.Pairwise (fun a b => a.id < b.id)) : best 3 ltBoth l = pick (fun p => p.state == 3) leLoad l l.length :=
 pick_congr (fun i j p q hj hp hq => by
  have := up_get h hj hp hq
  unfold ltBoth leLoad
  rw [decide_eq_true this, Bool.and_true, Bool.eq_iff_iff, Bool.or_eq_true]
  simp; omega) _
def refLess (p b : Pod) : Bool := decide (p.state < b.state) || ((p.state == b.state) && (!(p.state == 3) || decide (p.load ≤ b.load)))
def refPick (l : List Pod) (k : Nat) : Option Nat := pick lives refLess l k
def progPick (l : List Pod) (k : Nat) : Option Nat :=
 match pick (fun p => p.state == 1) anyOf l k with
 | some i => some i
 | none => match pick (fun p => p.state == 2) anyOf l k with
  | some i => some i
  | none => pick (fun p => p.state == 3) leLoad l k
theorem ref_is_prog {l : List Pod} (hs : ∀ p ∈ l, 1 ≤ p.state ∧ p.state ≤ 4) : ∀ k, refPick l k = progPick l k
 | 0 => rfl
 | k + 1 => by
  have ih := ref_is_prog hs k
  cases hp : l[k]? with
  | none =>
   unfold refPick progPick pick
   rw [hp]; exact ih
  | some p =>
   have hb := hs p (List.mem_of_getElem? hp)
   unfold refPick progPick
   rw [pick_succ hp, pick_succ hp, pick_succ hp, pick_succ hp]
   have ih' : pick lives refLess l k = progPick l k := ih
   rw [ih']
   unfold progPick
   cases h1 : pick (fun p => p.state == 1) anyOf l k with
   | some i =>
    obtain ⟨_, q, hq, hqs⟩ := pick_lt h1
    have hqs' : q.state = 1 := by simpa using hqs
    simp only [beats, hq]
    unfold lives refLess anyOf
    by_cases e : p.state = 1
    ·simp [e, hqs']
    have : ¬ p.state < q.state := by omega
    simp [e, hqs', this]; omega
   | none =>
    cases h2 : pick (fun p => p.state == 2) anyOf l k with
    | some i =>
     obtain ⟨_, q, hq, hqs⟩ := pick_lt h2
     have hqs' : q.state = 2 := by simpa using hqs
     simp only [beats, hq]
     unfold lives refLess anyOf
     by_cases e1 : p.state = 1
     ·simp [e1, hqs']
     by_cases e2 : p.state = 2
     ·simp [e2, hqs']
     have : ¬ p.state < q.state := by omega
     simp [e1, e2, hqs', this]; omega
    | none =>
     cases h3 : pick (fun p => p.state == 3) leLoad l k with
     | some i =>
      obtain ⟨_, q, hq, hqs⟩ := pick_lt h3
      have hqs' : q.state = 3 := by simpa using hqs
      simp only [beats, hq]
      unfold lives refLess anyOf leLoad
      by_cases e1 : p.state = 1
      ·simp [e1, hqs']
      by_cases e2 : p.state = 2
      ·simp [e2, hqs']
      by_cases e3 : p.state = 3
      ·simp [e3, hqs']
      have e4 : p.state = 4 := by omega
      simp [e4, hqs']
     | none =>
      simp only [beats]
      unfold lives anyOf
      by_cases e1 : p.state = 1
      ·simp [e1]
      by_cases e2 : p.state = 2
      ·simp [e2]
      by_cases e3 : p.state = 3
      ·simp [e3]
      have e4 : p.state = 4 := by omega
      simp [e4]
def refGive (most : Int) (l : List Pod) (k : Nat) : Option Nat := pick (fun p => (p.state == 3) && decide (p.load < most)) ltLoad l k
theorem refGive_is {most : Int} {l : List Pod} : ∀ k, refGive most l k = (match pick (fun p => p.state == 3) ltLoad l k with | none => none | some i => if most ≤ loadAt l i then none else some i)
 | 0 => rfl
 | k + 1 => by
  have ih := refGive_is (most := most) (l := l) k
  cases hp : l[k]? with
  | none =>
   unfold refGive pick
   rw [hp]; exact ih
  | some p =>
   unfold refGive
   rw [pick_succ hp, pick_succ hp]
   have ih' : pick (fun p => (p.state == 3) && decide (p.load < most)) ltLoad l k = _ := ih
   rw [ih']
   by_cases e : p.state = 3
   ·cases h : pick (fun p => p.state == 3) ltLoad l k with
    | none =>
     simp only [e, beats]
     by_cases c : p.load < most
     ·have c' : ¬ most ≤ p.load := by omega
      simp [c, loadAt, hp, c']
     have c' : most ≤ p.load := by omega
     simp [c, loadAt, hp, c']
    | some j =>
     obtain ⟨_, q, hq, _⟩ := pick_lt h
     have hl : loadAt l j = q.load := by unfold loadAt; rw [hq]; rfl
     have hk : loadAt l k = p.load := by unfold loadAt; rw [hp]; rfl
     simp only [e, hl, hq, beats]
     unfold ltLoad
     by_cases c1 : most ≤ q.load
     ·simp only [if_pos c1]
      by_cases c2 : p.load < q.load
      ·by_cases c3 : p.load < most
       ·have : ¬ most ≤ p.load := by omega
        simp [c2, c3, hk, this]
       have : most ≤ p.load := by omega
       simp [c2, c3, hk, this]
      have c3 : ¬ p.load < most := by omega
      simp [c2, c3, hl, c1]
     simp only [if_neg c1, hq, beats]
     by_cases c2 : p.load < q.load
     ·have c3 : p.load < most := by omega
      have : ¬ most ≤ p.load := by omega
      simp [c2, c3, hk, this]
     simp [c2, hl, c1]
   cases h : pick (fun p => p.state == 3) ltLoad l k with
   | none => simp [e]
   | some j => simp [e]
end G
namespace G
theorem split_at {l : List Pod} {i : Nat} {p : Pod} (h : l[i]? = some p) : l = l.take i ++ p :: l.drop (i + 1) := by
 conv => lhs; rw [← List.take_append_drop i l]
 rw [drop_of_get h]
theorem erase_at {l : List Pod} {i : Nat} : l.eraseIdx i = l.take i ++ l.drop (i + 1) := List.eraseIdx_eq_take_drop_succ l i
theorem set_at {l : List Pod} {i : Nat} {p q : Pod} (h : l[i]? = some p) : l.set i q = l.take i ++ q :: l.drop (i + 1) := by
 rw [List.set_eq_take_append_cons_drop, if_pos (get_lt h)]
theorem live_erase {l : List Pod} {i : Nat} {p : Pod} (h : l[i]? = some p) : liveN (l.eraseIdx i) = liveN l - (if lives p then 1 else 0) := by
 unfold liveN
 conv => rhs; rw [split_at h]
 rw [erase_at, List.countP_append, List.countP_append, List.countP_cons]
 split <;> simp <;> omega
theorem live_set {l : List Pod} {i : Nat} {p q : Pod} (h : l[i]? = some p) : liveN (l.set i q) = liveN l - (if lives p then 1 else 0) + (if lives q then 1 else 0) := by
 unfold liveN
 conv => rhs; rw [split_at h]
 rw [set_at h, List.countP_append, List.countP_append, List.countP_cons, List.countP_cons]
 split <;> split <;> simp <;> omega
def sumL (l : List Pod) : Int := (l.map (·.load)).sum
theorem sum_erase {l : List Pod} {i : Nat} {p : Pod} (h : l[i]? = some p) : sumL (l.eraseIdx i) = sumL l - p.load := by
 unfold sumL
 conv => rhs; rw [split_at h]
 rw [erase_at, List.map_append, List.sum_append, List.map_append, List.sum_append, List.map_cons, List.sum_cons]
 omega
theorem sum_set {l : List Pod} {i : Nat} {p q : Pod} (h : l[i]? = some p) : sumL (l.set i q) = sumL l - p.load + q.load := by
 unfold sumL
 conv => rhs; rw [split_at h]
 rw [set_at h, List.map_append, List.sum_append, List.map_append, List.sum_append, List.map_cons, List.sum_cons, List.map_cons, List.sum_cons]
 omega
theorem best_at {st : Int} {f : Pod → Pod → Bool} {l : List Pod} {i : Nat} (h : best st f l = some i) : ∃ p, l[i]? = some p ∧ p.state = st := by
 obtain ⟨_, p, hp, hs⟩ := pick_lt h
 exact ⟨p, hp, by simpa using hs⟩
theorem best_no {st : Int} {f : Pod → Pod → Bool} {l : List Pod} (h : best st f l = none) : ∀ p ∈ l, p.state ≠ st := by
 intro p hp
 obtain ⟨i, hi⟩ := List.mem_iff_getElem?.1 hp
 have := pick_none h i p (get_lt hi) hi
 simpa using this
theorem victim {l : List Pod} (hs : ∀ p ∈ l, 1 ≤ p.state ∧ p.state ≤ 4) (hl : 0 < liveN l) (h1 : best 1 gtId l = none) (h2 : best 2 gtId l = none) : ∃ i, best 3 ltBoth l = some i := by
 cases h3 : best 3 ltBoth l with
 | some i => exact ⟨i, rfl⟩
 | none =>
  have : l.countP lives = 0 := by
   rw [List.countP_eq_zero]
   intro p hp
   have a := hs p hp; have b1 := best_no h1 p hp; have b2 := best_no h2 p hp; have b3 := best_no h3 p hp
   unfold lives
   have : p.state = 4 := by omega
   simp [this]
  unfold liveN at hl; omega
theorem fewer_cases {l : List Pod} (hs : ∀ p ∈ l, 1 ≤ p.state ∧ p.state ≤ 4) (hl : 0 < liveN l) : ∃ i p, l[i]? = some p ∧ lives p = true ∧ p.state ≤ 3 ∧ ((fewerL l = l.eraseIdx i ∧ (p.state = 3 → p.load = 0)) ∨ (fewerL l = l.set i { p with state := 4 } ∧ p.state = 3 ∧ p.load ≠ 0)) := by
 unfold fewerL
 cases h1 : best 1 gtId l with
 | some i =>
  obtain ⟨p, hp, hs1⟩ := best_at h1
  exact ⟨i, p, hp, by unfold lives; rw [hs1]; rfl, by omega, .inl ⟨rfl, fun e => by omega⟩⟩
 | none =>
  cases h2 : best 2 gtId l with
  | some i =>
   obtain ⟨p, hp, hs1⟩ := best_at h2
   exact ⟨i, p, hp, by unfold lives; rw [hs1]; rfl, by omega, .inl ⟨rfl, fun e => by omega⟩⟩
  | none =>
   obtain ⟨i, h3⟩ := victim hs hl h1 h2
   obtain ⟨p, hp, hs1⟩ := best_at h3
   have hla : loadAt l i = p.load := by unfold loadAt; rw [hp]; rfl
   refine ⟨i, p, hp, by unfold lives; rw [hs1]; rfl, by omega, ?_⟩
   simp only [h3, hla]
   by_cases c : p.load = 0
   ·exact .inl ⟨by rw [if_pos c], fun _ => c⟩
   exact .inr ⟨by rw [if_neg c]; unfold drainAt; rw [hp], hs1, c⟩
theorem fewer_live {l : List Pod} (hs : ∀ p ∈ l, 1 ≤ p.state ∧ p.state ≤ 4) (hl : 0 < liveN l) : liveN (fewerL l) = liveN l - 1 := by
 obtain ⟨i, p, hp, hl, _, ⟨e, _⟩ | ⟨e, _, _⟩⟩ := fewer_cases hs hl
 ·rw [e, live_erase hp, hl]; rfl
 rw [e, live_set hp, hl]; simp [lives]
theorem mem_set {l : List Pod} {i : Nat} {q x : Pod} (h : x ∈ l.set i q) : x ∈ l ∨ x = q := List.mem_or_eq_of_mem_set h
theorem up_set {l : List Pod} {i : Nat} {p q : Pod} (h : l.Pairwise (fun a b => a.id < b.id)) (hp : l[i]? = some p) (e : q.id = p.id) : (l.set i q).Pairwise (fun a b => a.id < b.id) := by
 have h1 : (l.map (·.id)).Pairwise (· < ·) := by rw [List.pairwise_map]; exact h
 have h2 : (l.set i q).map (·.id) = l.map (·.id) := by
  rw [List.map_set, e]
  conv => rhs; rw [← List.set_getElem_self (show i < (l.map (·.id)).length by rw [List.length_map]; exact get_lt hp)]
  congr 1
  rw [List.getElem_map]
  have := List.getElem?_eq_getElem (get_lt hp)
  rw [this] at hp
  rw [Option.some.inj hp]
 rw [← h2, List.pairwise_map] at h1
 exact h1
theorem Crewed.erase {l : List Pod} {last most : Int} (h : Crewed l last most) (i : Nat) : Crewed (l.eraseIdx i) last most :=
 ⟨h.up.sublist (List.eraseIdx_sublist l i), fun p hp => h.ids p ((List.eraseIdx_sublist l i).subset hp), fun p hp => h.states p ((List.eraseIdx_sublist l i).subset hp), fun p hp => h.loads p ((List.eraseIdx_sublist l i).subset hp), h.last0⟩
theorem Crewed.set {l : List Pod} {last most : Int} (h : Crewed l last most) {i : Nat} {p q : Pod} (hp : l[i]? = some p) (e : q.id = p.id) (h1 : 1 ≤ q.state ∧ q.state ≤ 4) (h2 : 0 ≤ q.load ∧ q.load ≤ most ∧ (0 < q.load → 3 ≤ q.state) ∧ (q.state = 4 → 0 < q.load)) : Crewed (l.set i q) last most := by
 have hm := List.mem_of_getElem? hp
 refine ⟨up_set h.up hp e, fun x hx => ?_, fun x hx => ?_, fun x hx => ?_, h.last0⟩ <;> rcases mem_set hx with c | c
 ·exact h.ids x c
 ·rw [c, e]; exact h.ids p hm
 ·exact h.states x c
 ·rw [c]; exact h1
 ·exact h.loads x c
 rw [c]; exact h2
theorem Crewed.fewer {l : List Pod} {last most : Int} (h : Crewed l last most) (hl : 0 < liveN l) : Crewed (fewerL l) last most ∧ sumL (fewerL l) = sumL l ∧ (fewerL l).length ≤ l.length := by
 obtain ⟨i, p, hp, hlv, h3, ⟨e, hz⟩ | ⟨e, hz1, hz2⟩⟩ := fewer_cases h.states hl
 ·have hl := h.loads p (List.mem_of_getElem? hp)
  have : p.load = 0 := by
   by_cases c : p.state = 3
   ·exact hz c
   have := hl.2.2.1; omega
  rw [e]
  exact ⟨h.erase i, by rw [sum_erase hp, this]; omega, (List.eraseIdx_sublist l i).length_le⟩
 have hl := h.loads p (List.mem_of_getElem? hp)
 rw [e]
 exact ⟨h.set hp rfl ⟨show (1 : Int) ≤ 4 by decide, show (4 : Int) ≤ 4 by decide⟩ ⟨hl.1, hl.2.1, fun _ => by show (3:Int) ≤ 4; decide, fun _ => by show 0 < p.load; omega⟩, by rw [sum_set hp]; simp only; omega, by simp⟩
theorem newPods_length (last : Int) (m : Nat) : (newPods last m).length = m := by simp [newPods]
theorem newPods_succ (last : Int) (m : Nat) : newPods last (m + 1) = newPods last m ++ [⟨last + 1 + (m : Int), 1, 0⟩] := by
 unfold newPods; rw [List.range_succ, List.map_append]; rfl
theorem newPods_mem {last : Int} {m : Nat} {p : Pod} (h : p ∈ newPods last m) : last + 1 ≤ p.id ∧ p.id ≤ last + m ∧ p.state = 1 ∧ p.load = 0 := by
 unfold newPods at h
 obtain ⟨i, hi, rfl⟩ := List.mem_map.1 h
 rw [List.mem_range] at hi
 exact ⟨by simp only; omega, by simp only; omega, rfl, rfl⟩
theorem newPods_live (last : Int) (m : Nat) : (newPods last m).countP lives = m := by
 have : (newPods last m).countP lives = (newPods last m).length := by
  rw [List.countP_eq_length]
  intro p hp
  unfold lives; rw [(newPods_mem hp).2.2.1]; rfl
 rw [this, newPods_length]
theorem live_more (l : List Pod) (last : Int) (m : Nat) : liveN (l ++ newPods last m) = liveN l + m := by
 unfold liveN; rw [List.countP_append, newPods_live]; omega
theorem sum_more (l : List Pod) (last : Int) (m : Nat) : sumL (l ++ newPods last m) = sumL l := by
 unfold sumL
 rw [List.map_append, List.sum_append]
 have : ((newPods last m).map (·.load)) = List.replicate m 0 := by
  unfold newPods; rw [List.map_map]
  rw [List.eq_replicate_iff]
  exact ⟨by simp, fun b hb => by obtain ⟨i, _, rfl⟩ := List.mem_map.1 hb; rfl⟩
 rw [this]
 have h0 : ∀ k : Nat, (List.replicate k (0 : Int)).sum = 0 := fun k => by
  induction k with
  | zero => rfl
  | succ k ih => rw [List.replicate_succ, List.sum_cons, ih]; rfl
 rw [h0]; omega
theorem Crewed.more {l : List Pod} {last most : Int} (h : Crewed l last most) (hm : 0 ≤ most) (m : Nat) : Crewed (l ++ newPods last m) (last + m) most := by
 refine ⟨?_, fun p hp => ?_, fun p hp => ?_, fun p hp => ?_, by have := h.last0; omega⟩
 ·rw [List.pairwise_append]
  refine ⟨h.up, ?_, fun a ha b hb => ?_⟩
  ·unfold newPods
   rw [List.pairwise_map]
   exact List.pairwise_lt_range.imp (fun {a b} hab => by simp only; omega)
  have := h.ids a ha; have := newPods_mem hb; omega
 all_goals
  rcases List.mem_append.1 hp with c | c
 ·have := h.ids p c; omega
 ·have := newPods_mem c; have := h.last0; omega
 ·exact h.states p c
 ·have := newPods_mem c; omega
 ·exact h.loads p c
 have := newPods_mem c; omega
theorem thinN_succ : ∀ (m : Nat) (l : List Pod), thinN (m + 1) l = fewerL (thinN m l)
 | 0, l => rfl
 | m + 1, l => by rw [thinN, thinN_succ m (fewerL l)]; rfl
theorem Crewed.thinN {l : List Pod} {last most : Int} (h : Crewed l last most) : ∀ m : Nat, (m : Int) ≤ liveN l → Crewed (thinN m l) last most ∧ liveN (thinN m l) = liveN l - m ∧ sumL (thinN m l) = sumL l ∧ (G.thinN m l).length ≤ l.length
 | 0, _ => ⟨h, by simp [G.thinN], rfl, Nat.le_refl _⟩
 | m + 1, hm => by
  obtain ⟨h1, h2, h3, h4⟩ := h.thinN m (by omega)
  have hp : 0 < liveN (G.thinN m l) := by omega
  obtain ⟨h5, h6, h7⟩ := h1.fewer hp
  rw [thinN_succ]
  exact ⟨h5, by rw [fewer_live h1.states hp, h2]; omega, by rw [h6, h3], Nat.le_trans h7 h4⟩
theorem liveN_nn (l : List Pod) : 0 ≤ liveN l := by unfold liveN; omega
theorem Crewed.scale {l : List Pod} {last most : Int} (h : Crewed l last most) (hm : 0 ≤ most) (n : Int) : Crewed (scaleLst l last n) (scaleLast l last n) most ∧ sumL (scaleLst l last n) = sumL l ∧ (scaleErr n = 0 → liveN (scaleLst l last n) = n) ∧ (scaleLst l last n).length ≤ l.length + 50 ∧ scaleLast l last n ≤ last + 50 := by
 have hn := liveN_nn l
 have h1 := h.more hm (scaleUp l n)
 have hlm := live_more l last (scaleUp l n)
 have hD : (scaleDown l n : Int) ≤ liveN (l ++ newPods last (scaleUp l n)) := by
  rw [hlm]; unfold scaleDown scaleUp; split <;> omega
 obtain ⟨h2, h3, h4, h5⟩ := h1.thinN (scaleDown l n) hD
 have hU : scaleUp l n ≤ 50 := by unfold scaleUp; split <;> omega
 refine ⟨h2, by unfold scaleLst; rw [h4, sum_more], fun he => ?_, ?_, by unfold scaleLast; omega⟩
 ·unfold scaleErr at he
  split at he
  ·cases he
  rename_i hc
  unfold scaleLst
  rw [h3, hlm]
  unfold scaleDown scaleUp
  rw [if_neg hc, if_neg hc]; omega
 unfold scaleLst
 rw [List.length_append, newPods_length] at h5
 omega
theorem findP_some {l : List Pod} {id : Int} {i : Nat} (h : findP l id = some i) : ∃ p, l[i]? = some p ∧ p.id = id := by
 obtain ⟨p, h1, h2, _⟩ := firstAt_spec h
 exact ⟨p, h1, by unfold podIs at h2; simpa using h2⟩
theorem Crewed.turn {l : List Pod} {last most : Int} (h : Crewed l last most) (id src dst : Int) (hs : src = 1 ∧ dst = 2 ∨ src = 2 ∧ dst = 3) : Crewed (turnLst l id src dst) last most ∧ sumL (turnLst l id src dst) = sumL l ∧ (turnLst l id src dst).length = l.length := by
 unfold turnLst
 cases hf : findP l id with
 | none => exact ⟨h, rfl, rfl⟩
 | some i =>
  obtain ⟨p, hp, _⟩ := findP_some hf
  simp only [hp]
  by_cases c : p.state = src
  ·rw [if_pos c]
   have hl := h.loads p (List.mem_of_getElem? hp)
   have h0 : p.load = 0 := by have := hl.2.2.1; omega
   exact ⟨h.set hp rfl ⟨by simp only; omega, by simp only; omega⟩ ⟨hl.1, hl.2.1, fun e => by simp only at e; omega, fun e => by simp only at e; omega⟩, by rw [sum_set hp]; simp only; omega, by simp⟩
  rw [if_neg c]; exact ⟨h, rfl, rfl⟩
theorem Crewed.crash {l : List Pod} {last most : Int} (h : Crewed l last most) (id : Int) : Crewed (crashLst l id) last most ∧ sumL (crashLst l id) = sumL l - crashNum l id ∧ (crashLst l id).length ≤ l.length := by
 unfold crashLst crashNum
 cases hf : findP l id with
 | none => exact ⟨h, by simp, Nat.le_refl _⟩
 | some i =>
  obtain ⟨p, hp, _⟩ := findP_some hf
  simp only
  exact ⟨h.erase i, by rw [sum_erase hp]; unfold loadAt; rw [hp]; rfl, (List.eraseIdx_sublist l i).length_le⟩
theorem giveAt_some {l : List Pod} {most : Int} {i : Nat} (h : giveAt l most = some i) : ∃ p, l[i]? = some p ∧ p.state = 3 ∧ p.load < most := by
 unfold giveAt at h
 cases hb : best 3 ltLoad l with
 | none => rw [hb] at h; cases h
 | some j =>
  rw [hb] at h
  simp only at h
  obtain ⟨p, hp, hs⟩ := best_at hb
  have hla : loadAt l j = p.load := by unfold loadAt; rw [hp]; rfl
  by_cases c : most ≤ loadAt l j
  ·rw [if_pos c] at h; cases h
  rw [if_neg c] at h; cases h; exact ⟨p, hp, hs, by omega⟩
theorem Crewed.give {l : List Pod} {last most : Int} (h : Crewed l last most) : Crewed (giveLst l most) last most ∧ sumL (giveLst l most) = sumL l + (if giveErr l most = 0 then 1 else 0) ∧ (giveLst l most).length = l.length := by
 unfold giveLst giveErr
 cases hg : giveAt l most with
 | none => exact ⟨h, by simp, rfl⟩
 | some i =>
  obtain ⟨p, hp, hs, hl⟩ := giveAt_some hg
  simp only [hp]
  have h1 := h.loads p (List.mem_of_getElem? hp)
  exact ⟨h.set hp rfl ⟨by simp only; omega, by simp only; omega⟩ ⟨by simp only; omega, by simp only; omega, fun _ => by simp only; omega, fun e => by simp only at e; omega⟩, by rw [sum_set hp]; simp; omega, by simp⟩
theorem Crewed.done {l : List Pod} {last most : Int} (h : Crewed l last most) (id : Int) : Crewed (podDoneLst l id) last most ∧ sumL (podDoneLst l id) = sumL l - (if podDoneErr l id = 0 then 1 else 0) ∧ (podDoneLst l id).length ≤ l.length := by
 unfold podDoneLst podDoneErr
 cases hf : findP l id with
 | none => exact ⟨h, by simp, Nat.le_refl _⟩
 | some i =>
  obtain ⟨p, hp, _⟩ := findP_some hf
  have hla : loadAt l i = p.load := by unfold loadAt; rw [hp]; rfl
  simp only [hp, hla]
  have h1 := h.loads p (List.mem_of_getElem? hp)
  have h2 := h.states p (List.mem_of_getElem? hp)
  by_cases c : p.load = 0
  ·rw [if_pos c, if_pos c]; exact ⟨h, by simp, Nat.le_refl _⟩
  rw [if_neg c, if_neg c]
  by_cases d : p.state = 4 ∧ p.load - 1 = 0
  ·rw [if_pos d]
   exact ⟨h.erase i, by rw [sum_erase hp]; simp; omega, (List.eraseIdx_sublist l i).length_le⟩
  rw [if_neg d]
  refine ⟨h.set hp rfl h2 ⟨by simp only; omega, by simp only; omega, fun _ => by simp only; omega, fun e => by simp only at e ⊢; omega⟩, by rw [sum_set hp]; simp; omega, by simp⟩
theorem Crewed.nil (most : Int) : Crewed [] 0 most := ⟨List.Pairwise.nil, by simp, by simp, by simp, by decide⟩
end G
namespace G
open Go
structure Req where
 id : Int
 source : Int
 till : Int
 fate : Int
 pod : Int
 deriving DecidableEq
def Req.enc (r : Req) : List Value := [.int .i64 r.id, .int .i64 r.source, .int .i64 r.till, .int .i64 r.fate, .int .i64 r.pod]
theorem Req.enc_length (r : Req) : r.enc.length = 5 := rfl
def hasF (src fate : Int) (r : Req) : Bool := (r.fate == fate) && (decide (src < 0) || (r.source == src))
def countF (src fate : Int) (l : List Req) : Int := (l.countP (hasF src fate) : Nat)
def askErr (l : List Req) (now src ticks : Int) : Int :=
 if now < 0 ∨ 1099511627776 < now ∨ ticks < 1 ∨ 100000 < ticks then 1 else if src < 0 ∨ 6 ≤ src then 4 else if countF src 1 l = 20 ∨ countF (-1) 1 l = 60 ∨ l.length = 200 then 6 else 0
def askLst (l : List Req) (now src ticks : Int) : List Req := if askErr l now src ticks = 0 then l ++ [⟨l.length + 1, src, now + ticks, 1, 0⟩] else l
def askNum (l : List Req) (now src ticks : Int) : Int := if askErr l now src ticks = 0 then l.length + 1 else 0
def setF (p : Req → Bool) (fate : Int) (r : Req) : Req := if p r then { r with fate := fate } else r
def idsF (p : Req → Bool) (l : List Req) : List Int := (l.filter p).map (·.id)
def isLate (now : Int) (r : Req) : Bool := (r.fate == 1) && decide (r.till ≤ now)
def isLost (pod : Int) (r : Req) : Bool := (r.fate == 2) && (r.pod == pod)
def timeOk (now : Int) : Bool := decide (0 ≤ now) && decide (now ≤ 1099511627776)
def lateLst (l : List Req) (now : Int) : List Req := if timeOk now then l.map (setF (isLate now) 4) else l
def lateIds (l : List Req) (now : Int) : List Int := if timeOk now then idsF (isLate now) l else []
def lateErr (now : Int) : Int := if timeOk now then 0 else 1
def lostLst (l : List Req) (pod : Int) : List Req := l.map (setF (isLost pod) 5)
def waitsOf (src : Int) (r : Req) : Bool := (r.source == src) && (r.fate == 1)
def firstN (l : List Req) (src : Int) : Int := if 0 < countF src 2 l then 0 else match firstAt (waitsOf src) l with | none => 0 | some i => ((l[i]?).map (·.id)).getD 0
def bestStep (l : List Req) (best : Int) (s : Nat) : Int := if 0 < firstN l s ∧ (best = 0 ∨ firstN l s < best) then firstN l s else best
def nextN (l : List Req) : Int := (List.range 6).foldl (bestStep l) 0
def reqAt (l : List Req) (id : Int) : Option Req := if 1 ≤ id then l[(id - 1).toNat]? else none
def runErr (l : List Req) (id : Int) : Int := match reqAt l id with | none => 4 | some r => if firstN l r.source = id then 0 else 7
def runLst (l : List Req) (id pod : Int) : List Req := match reqAt l id with | none => l | some r => if firstN l r.source = id then l.set (id - 1).toNat { r with fate := 2, pod := pod } else l
def doneErr (l : List Req) (id : Int) : Int := match reqAt l id with | none => 4 | some r => if r.fate = 2 then 0 else 7
def doneNum (l : List Req) (id : Int) : Int := match reqAt l id with | none => 0 | some r => if r.fate = 2 then r.pod else 0
def doneLst (l : List Req) (id : Int) : List Req := match reqAt l id with | none => l | some r => if r.fate = 2 then l.set (id - 1).toNat { r with fate := 3 } else l
end G
namespace G
def Numbered (l : List Req) : Prop := ∀ (k : Nat) (r : Req), l[k]? = some r → r.id = (k : Int) + 1 ∧ 0 ≤ r.source ∧ r.source < 6
def freeF (l : List Req) (r : Req) : Bool := (r.fate == 1) && (countF r.source 2 l == 0)
def nextH (l : List Req) : Int := match firstAt (freeF l) l with | none => 0 | some i => (i : Int) + 1
theorem countF_nn (s f : Int) (l : List Req) : 0 ≤ countF s f l := by unfold countF; omega
theorem firstN_is {l : List Req} {k : Nat} {r : Req} (hn : Numbered l) (hr : l[k]? = some r) : (firstN l r.source = (k : Int) + 1) ↔ (freeF l r && !((l.take k).any (waitsOf r.source))) = true := by
 have hp := countF_nn r.source 2 l
 unfold firstN freeF
 by_cases hc : 0 < countF r.source 2 l
 ·rw [if_pos hc]
  have h2 : (countF r.source 2 l == 0) = false := by simp only [beq_eq_false_iff_ne]; omega
  rw [h2]
  simp; omega
 rw [if_neg hc]
 have h2 : (countF r.source 2 l == 0) = true := by simp only [beq_iff_eq]; omega
 rw [h2, Bool.and_true]
 cases hf : firstAt (waitsOf r.source) l with
 | none =>
  have := firstAt_miss hf k r hr
  unfold waitsOf at this
  have h3 : (r.fate == 1) = false := by simpa using this
  rw [h3]; simp; omega
 | some i =>
  obtain ⟨a, h1, h2, h3⟩ := firstAt_spec hf
  simp only
  rw [h1]
  show a.id = _ ↔ _
  rw [(hn i a h1).1]
  constructor
  ·intro e
   have e' : i = k := by omega
   subst e'
   rw [hr] at h1; cases h1
   unfold waitsOf at h2
   have h4 : (r.fate == 1) = true := by simpa using h2
   rw [h4, Bool.true_and]
   have : (l.take i).any (waitsOf r.source) = false := by
    rw [List.any_eq_false]
    intro x hx
    obtain ⟨j, hj⟩ := List.mem_iff_getElem?.1 hx
    rw [List.getElem?_take] at hj
    split at hj
    ·rename_i hji; simp [h3 j x hji hj]
    cases hj
   rw [this]; rfl
  intro e
  rw [Bool.and_eq_true] at e
  obtain ⟨e1, e2⟩ := e
  have h5 : waitsOf r.source r = true := by unfold waitsOf; rw [e1]; simp
  have e3 : (l.take k).any (waitsOf r.source) = false := by simpa using e2
  rw [List.any_eq_false] at e3
  rcases Nat.lt_trichotomy i k with c | c | c
  ·exact absurd h2 (e3 a (List.mem_of_getElem? (i := i) (by rw [List.getElem?_take, if_pos c]; exact h1)))
  ·omega
  have := h3 k r c hr
  rw [h5] at this; cases this
end G
namespace G
structure Good (l : List Req) : Prop where
 num : Numbered l
 few : ∀ s : Int, 0 ≤ s → countF s 1 l ≤ 20
 all : countF (-1) 1 l ≤ 60
theorem Good.nil : Good [] := ⟨fun k r h => by simp at h, fun s _ => by simp [countF], by simp [countF]⟩
def Tame (l l' : List Req) : Prop := l'.length = l.length ∧ ∀ (k : Nat) (r' : Req), l'[k]? = some r' → ∃ r, l[k]? = some r ∧ r'.id = r.id ∧ r'.source = r.source ∧ r'.till = r.till ∧ (r'.fate = 1 → r.fate = 1)
theorem Tame.tail {a a' : Req} {l l' : List Req} (h : Tame (a :: l) (a' :: l')) : Tame l l' := ⟨by simpa using h.1, fun k r' hk => by
 obtain ⟨r, h1, h2⟩ := h.2 (k + 1) r' (by simpa using hk)
 exact ⟨r, by simpa using h1, h2⟩⟩
theorem Tame.count (s : Int) : ∀ {l l' : List Req}, Tame l l' → l'.countP (hasF s 1) ≤ l.countP (hasF s 1)
 | [], [], _ => Nat.le_refl _
 | [], a' :: l', h => by have := h.1; simp at this
 | a :: l, [], h => by have := h.1; simp at this
 | a :: l, a' :: l', h => by
  have ih := Tame.count s h.tail
  obtain ⟨r, h1, _, h2, _, h3⟩ := h.2 0 a' rfl
  simp at h1; subst h1
  rw [List.countP_cons, List.countP_cons]
  have : hasF s 1 a' = true → hasF s 1 a = true := by
   unfold hasF
   rw [h2, Bool.and_eq_true, Bool.and_eq_true]
   rintro ⟨e1, e2⟩
   exact ⟨by have := h3 (by simpa using e1); simpa using this, e2⟩
  cases ha : hasF s 1 a'
  ·simp; omega
  rw [this ha]; simp; omega
theorem Good.tame {l l' : List Req} (h : Good l) (t : Tame l l') : Good l' := by
 refine ⟨fun k r' hk => ?_, fun s hs => ?_, ?_⟩
 ·obtain ⟨r, h1, h2, h3, _, _⟩ := t.2 k r' hk
  rw [h2, h3]; exact h.num k r h1
 ·have := h.few s hs; have := t.count s; unfold countF at *; omega
 have := h.all; have := t.count (-1); unfold countF at *; omega
theorem tame_refl (l : List Req) : Tame l l := ⟨rfl, fun k r h => ⟨r, h, rfl, rfl, rfl, id⟩⟩
theorem tame_map (p : Req → Bool) (f : Int) (hf : f ≠ 1) (l : List Req) : Tame l (l.map (setF p f)) := ⟨by simp, fun k r' hk => by
 rw [List.getElem?_map] at hk
 obtain ⟨r, h1, rfl⟩ := Option.map_eq_some_iff.1 hk
 refine ⟨r, h1, ?_⟩
 unfold setF
 split
 ·exact ⟨rfl, rfl, rfl, fun e => absurd e hf⟩
 exact ⟨rfl, rfl, rfl, id⟩⟩
theorem tame_set {l : List Req} {k : Nat} {r q : Req} (hr : l[k]? = some r) (h1 : q.id = r.id) (h2 : q.source = r.source) (h3 : q.till = r.till) (h4 : q.fate ≠ 1) : Tame l (l.set k q) := ⟨by simp, fun j r' hj => by
 by_cases e : k = j
 ·subst e
  rw [List.getElem?_set_self (get_lt hr)] at hj
  cases hj
  exact ⟨r, hr, h1, h2, h3, fun e => absurd e h4⟩
 rw [List.getElem?_set_ne e] at hj
 exact ⟨r', hj, rfl, rfl, rfl, id⟩⟩
theorem tame_late (l : List Req) (x : Int) : Tame l (lateLst l x) := by
 unfold lateLst; split
 ·exact tame_map _ _ (by decide) l
 exact tame_refl l
theorem tame_lost (l : List Req) (x : Int) : Tame l (lostLst l x) := tame_map _ _ (by decide) l
theorem reqAt_get {l : List Req} {id : Int} {r : Req} (h : reqAt l id = some r) : l[(id - 1).toNat]? = some r := by
 unfold reqAt at h; split at h
 ·exact h
 cases h
theorem tame_run (l : List Req) (id pod : Int) : Tame l (runLst l id pod) := by
 unfold runLst
 cases h : reqAt l id with
 | none => exact tame_refl l
 | some r =>
  simp only
  split
  ·exact tame_set (reqAt_get h) rfl rfl rfl (show (2 : Int) ≠ 1 by decide)
  exact tame_refl l
theorem tame_done (l : List Req) (id : Int) : Tame l (doneLst l id) := by
 unfold doneLst
 cases h : reqAt l id with
 | none => exact tame_refl l
 | some r =>
  simp only
  split
  ·exact tame_set (reqAt_get h) rfl rfl rfl (show (3 : Int) ≠ 1 by decide)
  exact tame_refl l
theorem Good.ask {l : List Req} (h : Good l) (now src ticks : Int) : Good (askLst l now src ticks) := by
 unfold askLst
 split
 ·rename_i he
  unfold askErr at he
  split at he
  ·cases he
  split at he
  ·cases he
  split at he
  ·cases he
  rename_i h1 h2 h3
  have hs := h.few src (by omega)
  refine ⟨fun k r hk => ?_, fun s hs => ?_, ?_⟩
  ·rcases Nat.lt_trichotomy k l.length with c | c | c
   ·rw [List.getElem?_append_left c] at hk; exact h.num k r hk
   ·subst c
    rw [List.getElem?_append_right (Nat.le_refl _), Nat.sub_self] at hk
    simp at hk; subst hk
    exact ⟨rfl, by simp only; omega, by simp only; omega⟩
   rw [List.getElem?_eq_none (by simp; omega)] at hk; cases hk
  ·have e := h.few s hs
   unfold countF at *
   rw [List.countP_append, List.countP_singleton]
   by_cases c : src = s
   ·subst c; simp [hasF]; omega
   have : hasF s 1 ⟨l.length + 1, src, now + ticks, 1, 0⟩ = false := by unfold hasF; simp [c]; omega
   rw [this]; simpa using e
  have e := h.all
  unfold countF at *
  rw [List.countP_append, List.countP_singleton]
  have : hasF (-1) 1 ⟨l.length + 1, src, now + ticks, 1, 0⟩ = true := by unfold hasF; simp
  rw [this]; simp; omega
 exact h
theorem firstN_pos {l : List Req} {s : Int} (hn : Numbered l) (h : 0 < firstN l s) : ∃ (j : Nat) (r : Req), l[j]? = some r ∧ firstN l s = (j : Int) + 1 ∧ freeF l r = true ∧ r.source = s := by
 have hp := countF_nn s 2 l
 unfold firstN at h ⊢
 by_cases hc : 0 < countF s 2 l
 ·rw [if_pos hc] at h; omega
 rw [if_neg hc] at h ⊢
 cases hf : firstAt (waitsOf s) l with
 | none => rw [hf] at h; simp at h
 | some i =>
  obtain ⟨a, h1, h2, h3⟩ := firstAt_spec hf
  refine ⟨i, a, h1, ?_, ?_⟩
  ·simp only; rw [h1]; exact (hn i a h1).1
  unfold waitsOf at h2
  rw [Bool.and_eq_true] at h2
  have e : a.source = s := by simpa using h2.1
  refine ⟨?_, e⟩
  unfold freeF
  rw [h2.2, e]
  simp; omega
theorem best_succ' (l : List Req) (k : Nat) : (List.range (k + 1)).foldl (bestStep l) 0 = bestStep l ((List.range k).foldl (bestStep l) 0) k := by
 rw [List.range_succ, List.foldl_append]; rfl
theorem best_inv (l : List Req) : ∀ k : Nat, ((List.range k).foldl (bestStep l) 0 = 0 ∧ ∀ s : Nat, s < k → ¬ 0 < firstN l s) ∨ (0 < (List.range k).foldl (bestStep l) 0 ∧ (∃ s : Nat, s < k ∧ firstN l s = (List.range k).foldl (bestStep l) 0) ∧ ∀ s : Nat, s < k → 0 < firstN l s → (List.range k).foldl (bestStep l) 0 ≤ firstN l s)
 | 0 => .inl ⟨rfl, fun s h => by omega⟩
 | k + 1 => by
  have ih := best_inv l k
  rw [best_succ']
  generalize (List.range k).foldl (bestStep l) 0 = b at ih ⊢
  unfold bestStep
  by_cases c : 0 < firstN l k ∧ (b = 0 ∨ firstN l k < b)
  ·rw [if_pos c]
   refine .inr ⟨c.1, ⟨k, by omega, rfl⟩, fun s hs hp => ?_⟩
   rcases Nat.lt_succ_iff_lt_or_eq.1 hs with h | h
   ·rcases ih with ⟨h1, h2⟩ | ⟨h1, h2, h3⟩
    ·exact absurd hp (h2 s h)
    have := h3 s h hp; omega
   subst h; exact Int.le_refl _
  rw [if_neg c]
  rcases ih with ⟨h1, h2⟩ | ⟨h1, ⟨s0, h2, h4⟩, h3⟩
  ·refine .inl ⟨h1, fun s hs => ?_⟩
   rcases Nat.lt_succ_iff_lt_or_eq.1 hs with h | h
   ·exact h2 s h
   subst h; omega
  refine .inr ⟨h1, ⟨s0, by omega, h4⟩, fun s hs hp => ?_⟩
  rcases Nat.lt_succ_iff_lt_or_eq.1 hs with h | h
  ·exact h3 s h hp
  subst h; omega
theorem next_same {l : List Req} (hn : Numbered l) : nextN l = nextH l := by
 have hb := best_inv l 6
 unfold nextN nextH
 generalize (List.range 6).foldl (bestStep l) 0 = b at hb ⊢
 cases hf : firstAt (freeF l) l with
 | none =>
  simp only
  rcases hb with ⟨h1, _⟩ | ⟨h1, ⟨s, _, h2⟩, _⟩
  ·exact h1
  obtain ⟨j, r, e1, _, e3, _⟩ := firstN_pos hn (s := s) (by omega)
  rw [firstAt_miss hf j r e1] at e3; cases e3
 | some i =>
  obtain ⟨r, e1, e2, e3⟩ := firstAt_spec hf
  simp only
  have hr := hn i r e1
  have h0 : firstN l r.source = (i : Int) + 1 := by
   rw [firstN_is hn e1, e2, Bool.true_and]
   have : (l.take i).any (waitsOf r.source) = false := by
    rw [List.any_eq_false]
    intro x hx hw
    obtain ⟨j, hj⟩ := List.mem_iff_getElem?.1 hx
    rw [List.getElem?_take] at hj
    split at hj
    ·rename_i hji
     have := e3 j x hji hj
     unfold freeF at this e2
     unfold waitsOf at hw
     rw [Bool.and_eq_true] at hw e2
     have hs : x.source = r.source := by simpa using hw.1
     rw [hw.2, hs, e2.2] at this; cases this
    cases hj
   rw [this]; rfl
  obtain ⟨s, hs⟩ := Int.eq_ofNat_of_zero_le hr.2.1
  have hs6 : s < 6 := by omega
  rw [hs] at h0
  rcases hb with ⟨_, h2⟩ | ⟨h1, ⟨s', _, h2⟩, h3⟩
  ·exact absurd (show 0 < firstN l s by omega) (h2 s hs6)
  have h4 := h3 s hs6 (by omega)
  obtain ⟨j, q, f1, f2, f3, _⟩ := firstN_pos hn (s := s') (by omega)
  rcases Nat.lt_or_ge j i with c | c
  ·rw [e3 j q c f1] at f3; cases f3
  omega
end G
