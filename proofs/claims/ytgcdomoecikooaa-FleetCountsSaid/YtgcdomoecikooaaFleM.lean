/- What a fleet does, as plain functions on lists; the reference's ways of choosing are the program's. -/
import Derived.Test.YtgcdomoecikooaaLst
namespace Tide
open Go
/-- a pod -/
structure Pod where
  id : Int
  state : Int
  load : Int
  deriving DecidableEq
def Pod.enc (p : Pod) : List Value := [.int .i64 p.id, .int .i64 p.state, .int .i64 p.load]
theorem Pod.enc_length (p : Pod) : p.enc.length = 3 := rfl
def lives (p : Pod) : Bool := !(p.state == 4)
def liveN (l : List Pod) : Int := (l.countP lives : Nat)
/-- is p better than what was chosen? -/
def beats (less : Pod → Pod → Bool) (l : List Pod) (o : Option Nat) (p : Pod) : Bool := match o with | none => true | some j => match l[j]? with | none => true | some q => less p q
/-- the last index at which a choice was made, going from the left -/
def pick (want : Pod → Bool) (less : Pod → Pod → Bool) (l : List Pod) : Nat → Option Nat
  | 0 => none
  | k + 1 => match l[k]? with
    | none => pick want less l k
    | some p => if want p && beats less l (pick want less l k) p then some k else pick want less l k
def best (st : Int) (less : Pod → Pod → Bool) (l : List Pod) : Option Nat := pick (fun p => p.state == st) less l l.length
def gtId (a b : Pod) : Bool := decide (b.id < a.id)
def ltBoth (a b : Pod) : Bool := decide (a.load < b.load) || ((a.load == b.load) && decide (b.id < a.id))
def ltLoad (a b : Pod) : Bool := decide (a.load < b.load)
def loadAt (l : List Pod) (i : Nat) : Int := ((l[i]?).map (·.load)).getD 0
def drainAt (l : List Pod) (i : Nat) : List Pod := match l[i]? with | none => l | some p => l.set i { p with state := 4 }
def fewerL (l : List Pod) : List Pod :=
  match best 1 gtId l with
  | some i => l.eraseIdx i
  | none => match best 2 gtId l with
    | some i => l.eraseIdx i
    | none => match best 3 ltBoth l with
      | some i => if loadAt l i = 0 then l.eraseIdx i else drainAt l i
      | none => l
def newPods (last : Int) (m : Nat) : List Pod := (List.range m).map fun (i : Nat) => ⟨last + 1 + (i : Int), 1, 0⟩
def fewerN : Nat → List Pod → List Pod
  | 0, l => l
  | k + 1, l => fewerN k (fewerL l)
def scaleErr (n : Int) : Int := if n < 0 ∨ 50 < n then 1 else 0
def scaleUp (l : List Pod) (n : Int) : Nat := if n < 0 ∨ 50 < n then 0 else (n - liveN l).toNat
def scaleDown (l : List Pod) (n : Int) : Nat := if n < 0 ∨ 50 < n then 0 else (liveN l - n).toNat
def scaleLst (l : List Pod) (last n : Int) : List Pod := fewerN (scaleDown l n) (l ++ newPods last (scaleUp l n))
def scaleLast (l : List Pod) (last n : Int) : Int := last + scaleUp l n
def podIs (id : Int) (p : Pod) : Bool := p.id == id
def findP (l : List Pod) (id : Int) : Option Nat := firstAt (podIs id) l
def turnErr (l : List Pod) (id src : Int) : Int := match findP l id with | none => 4 | some i => match l[i]? with | none => 4 | some p => if p.state = src then 0 else 7
def turnLst (l : List Pod) (id src dst : Int) : List Pod := match findP l id with | none => l | some i => match l[i]? with | none => l | some p => if p.state = src then l.set i { p with state := dst } else l
def crashErr (l : List Pod) (id : Int) : Int := match findP l id with | none => 4 | some _ => 0
def crashNum (l : List Pod) (id : Int) : Int := match findP l id with | none => 0 | some i => loadAt l i
def crashLst (l : List Pod) (id : Int) : List Pod := match findP l id with | none => l | some i => l.eraseIdx i
def giveAt (l : List Pod) (most : Int) : Option Nat := match best 3 ltLoad l with | none => none | some i => if most ≤ loadAt l i then none else some i
def giveErr (l : List Pod) (most : Int) : Int := match giveAt l most with | none => 4 | some _ => 0
def giveNum (l : List Pod) (most : Int) : Int := match giveAt l most with | none => 0 | some i => ((l[i]?).map (·.id)).getD 0
def giveLst (l : List Pod) (most : Int) : List Pod := match giveAt l most with | none => l | some i => match l[i]? with | none => l | some p => l.set i { p with load := p.load + 1 }
def podDoneErr (l : List Pod) (id : Int) : Int := match findP l id with | none => 4 | some i => if loadAt l i = 0 then 7 else 0
def podDoneLst (l : List Pod) (id : Int) : List Pod :=
  match findP l id with
  | none => l
  | some i => match l[i]? with
    | none => l
    | some p => if p.load = 0 then l else if p.state = 4 ∧ p.load - 1 = 0 then l.eraseIdx i else l.set i { p with load := p.load - 1 }
/-- what always holds of a fleet -/
structure Crewed (l : List Pod) (last most : Int) : Prop where
  up : l.Pairwise (fun a b => a.id < b.id)
  ids : ∀ p ∈ l, 1 ≤ p.id ∧ p.id ≤ last
  states : ∀ p ∈ l, 1 ≤ p.state ∧ p.state ≤ 4
  loads : ∀ p ∈ l, 0 ≤ p.load ∧ p.load ≤ most ∧ (0 < p.load → 3 ≤ p.state) ∧ (p.state = 4 → 0 < p.load)
  last0 : 0 ≤ last
theorem pick_lt {w : Pod → Bool} {f : Pod → Pod → Bool} {l : List Pod} : ∀ {k i : Nat}, pick w f l k = some i → i < k ∧ ∃ p, l[i]? = some p ∧ w p = true
  | 0, i, h => by cases h
  | k + 1, i, h => by
    unfold pick at h
    split at h
    · have := pick_lt h; exact ⟨by omega, this.2⟩
    · rename_i p hp
      by_cases hc : (w p && beats f l (pick w f l k) p) = true
      · rw [if_pos hc] at h
        cases h
        rw [Bool.and_eq_true] at hc
        exact ⟨by omega, p, hp, hc.1⟩
      · rw [if_neg hc] at h
        have := pick_lt h; exact ⟨by omega, this.2⟩
theorem pick_none {w : Pod → Bool} {f : Pod → Pod → Bool} {l : List Pod} : ∀ {k : Nat}, pick w f l k = none → ∀ (i : Nat) (p : Pod), i < k → l[i]? = some p → w p = false
  | 0, _, i, p, hi, _ => by omega
  | k + 1, h, i, p, hi, hp => by
    unfold pick at h
    split at h
    · rename_i hn
      rcases Nat.lt_succ_iff_lt_or_eq.1 hi with c | c
      · exact pick_none h i p c hp
      · subst c; rw [hn] at hp; cases hp
    · rename_i q hq
      by_cases hc : (w q && beats f l (pick w f l k) q) = true
      · rw [if_pos hc] at h; cases h
      · rw [if_neg hc] at h
        rcases Nat.lt_succ_iff_lt_or_eq.1 hi with c | c
        · exact pick_none h i p c hp
        · subst c
          rw [hq] at hp; cases hp
          rw [h] at hc
          cases hw : w p
          · rfl
          · rw [hw] at hc; exact absurd rfl hc
theorem pick_succ {w : Pod → Bool} {f : Pod → Pod → Bool} {l : List Pod} {k : Nat} {p : Pod} (hp : l[k]? = some p) :
    pick w f l (k + 1) = if w p && beats f l (pick w f l k) p then some k else pick w f l k := by
  conv => lhs; unfold pick
  rw [hp]
theorem pick_congr {w : Pod → Bool} {f g : Pod → Pod → Bool} {l : List Pod} (h : ∀ (i j : Nat) (p q : Pod), j < i → l[i]? = some p → l[j]? = some q → f p q = g p q) : ∀ k, pick w f l k = pick w g l k
  | 0 => rfl
  | k + 1 => by
    have ih := pick_congr (w := w) h k
    cases hp : l[k]? with
    | none => unfold pick; rw [hp]; exact ih
    | some p =>
      rw [pick_succ hp, pick_succ hp, ih]
      cases hj : pick w g l k with
      | none => rfl
      | some j =>
        obtain ⟨hlt, q, hq, _⟩ := pick_lt hj
        simp only [beats, hq]
        rw [h k j p q hlt hp hq]
def anyOf (a b : Pod) : Bool := true
def leLoad (a b : Pod) : Bool := decide (a.load ≤ b.load)
theorem up_get {l : List Pod} (h : l.Pairwise (fun a b => a.id < b.id)) {i j : Nat} {p q : Pod} (hj : j < i) (hp : l[i]? = some p) (hq : l[j]? = some q) : q.id < p.id := by
  rw [List.pairwise_iff_getElem] at h
  have h1 := get_lt hp; have h2 := get_lt hq
  rw [List.getElem?_eq_getElem h1] at hp; rw [List.getElem?_eq_getElem h2] at hq
  cases hp; cases hq
  exact h j i h2 h1 hj
theorem best_gt {l : List Pod} (h : l.Pairwise (fun a b => a.id < b.id)) (st : Int) : best st gtId l = pick (fun p => p.state == st) anyOf l l.length :=
  pick_congr (fun i j p q hj hp hq => by unfold gtId anyOf; simp [up_get h hj hp hq]) _
theorem best_both {l : List Pod} (h : l.Pairwise (fun a b => a.id < b.id)) : best 3 ltBoth l = pick (fun p => p.state == 3) leLoad l l.length :=
  pick_congr (fun i j p q hj hp hq => by
    have := up_get h hj hp hq
    unfold ltBoth leLoad
    rw [decide_eq_true this, Bool.and_true, Bool.eq_iff_iff, Bool.or_eq_true]
    simp; omega) _
/-- the reference's choice at a look: a lower state first, of one state the later, of ready ones the one with less to do -/
def refLess (p b : Pod) : Bool := decide (p.state < b.state) || ((p.state == b.state) && (!(p.state == 3) || decide (p.load ≤ b.load)))
def refPick (l : List Pod) (k : Nat) : Option Nat := pick lives refLess l k
def progPick (l : List Pod) (k : Nat) : Option Nat :=
  match pick (fun p => p.state == 1) anyOf l k with
  | some i => some i
  | none => match pick (fun p => p.state == 2) anyOf l k with
    | some i => some i
    | none => pick (fun p => p.state == 3) leLoad l k
theorem ref_is_prog {l : List Pod} (hs : ∀ p ∈ l, 1 ≤ p.state ∧ p.state ≤ 4) : ∀ k, refPick l k = progPick l k
  | 0 => rfl
  | k + 1 => by
    have ih := ref_is_prog hs k
    cases hp : l[k]? with
    | none =>
      unfold refPick progPick pick
      rw [hp]; exact ih
    | some p =>
      have hb := hs p (List.mem_of_getElem? hp)
      unfold refPick progPick
      rw [pick_succ hp, pick_succ hp, pick_succ hp, pick_succ hp]
      have ih' : pick lives refLess l k = progPick l k := ih
      rw [ih']
      unfold progPick
      cases h1 : pick (fun p => p.state == 1) anyOf l k with
      | some i =>
        obtain ⟨_, q, hq, hqs⟩ := pick_lt h1
        have hqs' : q.state = 1 := by simpa using hqs
        simp only [beats, hq]
        unfold lives refLess anyOf
        by_cases e : p.state = 1
        · simp [e, hqs']
        · have : ¬ p.state < q.state := by omega
          simp [e, hqs', this]; omega
      | none =>
        cases h2 : pick (fun p => p.state == 2) anyOf l k with
        | some i =>
          obtain ⟨_, q, hq, hqs⟩ := pick_lt h2
          have hqs' : q.state = 2 := by simpa using hqs
          simp only [beats, hq]
          unfold lives refLess anyOf
          by_cases e1 : p.state = 1
          · simp [e1, hqs']
          · by_cases e2 : p.state = 2
            · simp [e2, hqs']
            · have : ¬ p.state < q.state := by omega
              simp [e1, e2, hqs', this]; omega
        | none =>
          cases h3 : pick (fun p => p.state == 3) leLoad l k with
          | some i =>
            obtain ⟨_, q, hq, hqs⟩ := pick_lt h3
            have hqs' : q.state = 3 := by simpa using hqs
            simp only [beats, hq]
            unfold lives refLess anyOf leLoad
            by_cases e1 : p.state = 1
            · simp [e1, hqs']
            · by_cases e2 : p.state = 2
              · simp [e2, hqs']
              · by_cases e3 : p.state = 3
                · simp [e3, hqs']
                · have e4 : p.state = 4 := by omega
                  simp [e4, hqs']
          | none =>
            simp only [beats]
            unfold lives anyOf
            by_cases e1 : p.state = 1
            · simp [e1]
            · by_cases e2 : p.state = 2
              · simp [e2]
              · by_cases e3 : p.state = 3
                · simp [e3]
                · have e4 : p.state = 4 := by omega
                  simp [e4]
/-- the reference's Give -/
def refGive (most : Int) (l : List Pod) (k : Nat) : Option Nat := pick (fun p => (p.state == 3) && decide (p.load < most)) ltLoad l k
theorem refGive_is {most : Int} {l : List Pod} : ∀ k, refGive most l k = (match pick (fun p => p.state == 3) ltLoad l k with | none => none | some i => if most ≤ loadAt l i then none else some i)
  | 0 => rfl
  | k + 1 => by
    have ih := refGive_is (most := most) (l := l) k
    cases hp : l[k]? with
    | none =>
      unfold refGive pick
      rw [hp]; exact ih
    | some p =>
      unfold refGive
      rw [pick_succ hp, pick_succ hp]
      have ih' : pick (fun p => (p.state == 3) && decide (p.load < most)) ltLoad l k = _ := ih
      rw [ih']
      by_cases e : p.state = 3
      · cases h : pick (fun p => p.state == 3) ltLoad l k with
        | none =>
          simp only [e, beats]
          by_cases c : p.load < most
          · have c' : ¬ most ≤ p.load := by omega
            simp [c, loadAt, hp, c']
          · have c' : most ≤ p.load := by omega
            simp [c, loadAt, hp, c']
        | some j =>
          obtain ⟨_, q, hq, _⟩ := pick_lt h
          have hl : loadAt l j = q.load := by unfold loadAt; rw [hq]; rfl
          have hk : loadAt l k = p.load := by unfold loadAt; rw [hp]; rfl
          simp only [e, hl, hq, beats]
          unfold ltLoad
          by_cases c1 : most ≤ q.load
          · simp only [if_pos c1]
            by_cases c2 : p.load < q.load
            · by_cases c3 : p.load < most
              · have : ¬ most ≤ p.load := by omega
                simp [c2, c3, hk, this]
              · have : most ≤ p.load := by omega
                simp [c2, c3, hk, this]
            · have c3 : ¬ p.load < most := by omega
              simp [c2, c3, hl, c1]
          · simp only [if_neg c1, hq, beats]
            by_cases c2 : p.load < q.load
            · have c3 : p.load < most := by omega
              have : ¬ most ≤ p.load := by omega
              simp [c2, c3, hk, this]
            · simp [c2, hl, c1]
      · cases h : pick (fun p => p.state == 3) ltLoad l k with
        | none => simp [e]
        | some j => simp [e]
end Tide
