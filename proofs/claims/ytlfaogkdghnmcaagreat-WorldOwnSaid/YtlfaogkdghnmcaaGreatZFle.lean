/- What a fleet does, as plain functions on lists; the reference's ways of choosing are the program's. The plain laws of a fleet: what is kept by each order; counts and sums. The contracts of package fleet: Count, best. slices.Delete, Clone, IndexFunc at pods; the contracts of gone, fewer, find, All. The contracts of fewer, Scale. The contracts of Scale, turn, Crash, Give, Done, New. The contracts of Start, Ready, Crash, Give, Done, New. -/
import Derived.Test.YtlfaogkdghnmcaaGreatZBase
import Derived.Test.YtlfaogkdghnmcaaGreatRows
import Derived.WalkKit
import Derived.WalkSpells
import Derived.WalkLawsBesides
import Derived.Lib.Hide
import Derived.Handy
import Derived.RegionTactic
import Derived.BigRegion
import Derived.Deep.QuietTactic
import Derived.BigQuiet
import Derived.Deep.RegionLaw
import Derived.Deep.RegionHeld3
import Derived.Deep.AppendLies
import Derived.Deep.DeepCutAuto
import Derived.Deep.CutBlock
import Derived.Deep.LoopGhost
import Derived.Lib.SliceRun

set_option linter.unusedVariables false
set_option linter.unusedSimpArgs false
namespace Tide
open Go
/-- a pod -/
structure Pod where
  id : Int
  state : Int
  load : Int
  deriving DecidableEq
def Pod.enc (p : Pod) : List Value := [.int .i64 p.id, .int .i64 p.state, .int .i64 p.load]
theorem Pod.enc_length (p : Pod) : p.enc.length = 3 := rfl
def lives (p : Pod) : Bool := !(p.state == 4)
def liveN (l : List Pod) : Int := (l.countP lives : Nat)
/-- is p better than what was chosen? -/
def beats (less : Pod → Pod → Bool) (l : List Pod) (o : Option Nat) (p : Pod) : Bool := match o with | none => true | some j => match l[j]? with | none => true | some q => less p q
/-- the last index at which a choice was made, going from the left -/
def pick (want : Pod → Bool) (less : Pod → Pod → Bool) (l : List Pod) : Nat → Option Nat
  | 0 => none
  | k + 1 => match l[k]? with
    | none => pick want less l k
    | some p => if want p && beats less l (pick want less l k) p then some k else pick want less l k
def best (st : Int) (less : Pod → Pod → Bool) (l : List Pod) : Option Nat := pick (fun p => p.state == st) less l l.length
def gtId (a b : Pod) : Bool := decide (b.id < a.id)
def ltBoth (a b : Pod) : Bool := decide (a.load < b.load) || ((a.load == b.load) && decide (b.id < a.id))
def ltLoad (a b : Pod) : Bool := decide (a.load < b.load)
def loadAt (l : List Pod) (i : Nat) : Int := ((l[i]?).map (·.load)).getD 0
def drainAt (l : List Pod) (i : Nat) : List Pod := match l[i]? with | none => l | some p => l.set i { p with state := 4 }
def fewerL (l : List Pod) : List Pod :=
  match best 1 gtId l with
  | some i => l.eraseIdx i
  | none => match best 2 gtId l with
    | some i => l.eraseIdx i
    | none => match best 3 ltBoth l with
      | some i => if loadAt l i = 0 then l.eraseIdx i else drainAt l i
      | none => l
def newPods (last : Int) (m : Nat) : List Pod := (List.range m).map fun (i : Nat) => ⟨last + 1 + (i : Int), 1, 0⟩
def thinN : Nat → List Pod → List Pod
  | 0, l => l
  | k + 1, l => thinN k (fewerL l)
def scaleErr (n : Int) : Int := if n < 0 ∨ 50 < n then 1 else 0
def scaleUp (l : List Pod) (n : Int) : Nat := if n < 0 ∨ 50 < n then 0 else (n - liveN l).toNat
def scaleDown (l : List Pod) (n : Int) : Nat := if n < 0 ∨ 50 < n then 0 else (liveN l - n).toNat
def scaleLst (l : List Pod) (last n : Int) : List Pod := thinN (scaleDown l n) (l ++ newPods last (scaleUp l n))
def scaleLast (l : List Pod) (last n : Int) : Int := last + scaleUp l n
def podIs (id : Int) (p : Pod) : Bool := p.id == id
def findP (l : List Pod) (id : Int) : Option Nat := firstAt (podIs id) l
def turnErr (l : List Pod) (id src : Int) : Int := match findP l id with | none => 4 | some i => match l[i]? with | none => 4 | some p => if p.state = src then 0 else 7
def turnLst (l : List Pod) (id src dst : Int) : List Pod := match findP l id with | none => l | some i => match l[i]? with | none => l | some p => if p.state = src then l.set i { p with state := dst } else l
def crashErr (l : List Pod) (id : Int) : Int := match findP l id with | none => 4 | some _ => 0
def crashNum (l : List Pod) (id : Int) : Int := match findP l id with | none => 0 | some i => loadAt l i
def crashLst (l : List Pod) (id : Int) : List Pod := match findP l id with | none => l | some i => l.eraseIdx i
def giveAt (l : List Pod) (most : Int) : Option Nat := match best 3 ltLoad l with | none => none | some i => if most ≤ loadAt l i then none else some i
def giveErr (l : List Pod) (most : Int) : Int := match giveAt l most with | none => 4 | some _ => 0
def giveNum (l : List Pod) (most : Int) : Int := match giveAt l most with | none => 0 | some i => ((l[i]?).map (·.id)).getD 0
def giveLst (l : List Pod) (most : Int) : List Pod := match giveAt l most with | none => l | some i => match l[i]? with | none => l | some p => l.set i { p with load := p.load + 1 }
def podDoneErr (l : List Pod) (id : Int) : Int := match findP l id with | none => 4 | some i => if loadAt l i = 0 then 7 else 0
def podDoneLst (l : List Pod) (id : Int) : List Pod :=
  match findP l id with
  | none => l
  | some i => match l[i]? with
    | none => l
    | some p => if p.load = 0 then l else if p.state = 4 ∧ p.load - 1 = 0 then l.eraseIdx i else l.set i { p with load := p.load - 1 }
/-- what always holds of a fleet -/
structure Crewed (l : List Pod) (last most : Int) : Prop where
  up : l.Pairwise (fun a b => a.id < b.id)
  ids : ∀ p ∈ l, 1 ≤ p.id ∧ p.id ≤ last
  states : ∀ p ∈ l, 1 ≤ p.state ∧ p.state ≤ 4
  loads : ∀ p ∈ l, 0 ≤ p.load ∧ p.load ≤ most ∧ (0 < p.load → 3 ≤ p.state) ∧ (p.state = 4 → 0 < p.load)
  last0 : 0 ≤ last
theorem pick_lt {w : Pod → Bool} {f : Pod → Pod → Bool} {l : List Pod} : ∀ {k i : Nat}, pick w f l k = some i → i < k ∧ ∃ p, l[i]? = some p ∧ w p = true
  | 0, i, h => by cases h
  | k + 1, i, h => by
    unfold pick at h
    split at h
    · have := pick_lt h; exact ⟨by omega, this.2⟩
    · rename_i p hp
      by_cases hc : (w p && beats f l (pick w f l k) p) = true
      · rw [if_pos hc] at h
        cases h
        rw [Bool.and_eq_true] at hc
        exact ⟨by omega, p, hp, hc.1⟩
      · rw [if_neg hc] at h
        have := pick_lt h; exact ⟨by omega, this.2⟩
theorem pick_none {w : Pod → Bool} {f : Pod → Pod → Bool} {l : List Pod} : ∀ {k : Nat}, pick w f l k = none → ∀ (i : Nat) (p : Pod), i < k → l[i]? = some p → w p = false
  | 0, _, i, p, hi, _ => by omega
  | k + 1, h, i, p, hi, hp => by
    unfold pick at h
    split at h
    · rename_i hn
      rcases Nat.lt_succ_iff_lt_or_eq.1 hi with c | c
      · exact pick_none h i p c hp
      · subst c; rw [hn] at hp; cases hp
    · rename_i q hq
      by_cases hc : (w q && beats f l (pick w f l k) q) = true
      · rw [if_pos hc] at h; cases h
      · rw [if_neg hc] at h
        rcases Nat.lt_succ_iff_lt_or_eq.1 hi with c | c
        · exact pick_none h i p c hp
        · subst c
          rw [hq] at hp; cases hp
          rw [h] at hc
          cases hw : w p
          · rfl
          · rw [hw] at hc; exact absurd rfl hc
theorem pick_succ {w : Pod → Bool} {f : Pod → Pod → Bool} {l : List Pod} {k : Nat} {p : Pod} (hp : l[k]? = some p) :
    pick w f l (k + 1) = if w p && beats f l (pick w f l k) p then some k else pick w f l k := by
  conv => lhs; unfold pick
  rw [hp]
theorem pick_congr {w : Pod → Bool} {f g : Pod → Pod → Bool} {l : List Pod} (h : ∀ (i j : Nat) (p q : Pod), j < i → l[i]? = some p → l[j]? = some q → f p q = g p q) : ∀ k, pick w f l k = pick w g l k
  | 0 => rfl
  | k + 1 => by
    have ih := pick_congr (w := w) h k
    cases hp : l[k]? with
    | none => unfold pick; rw [hp]; exact ih
    | some p =>
      rw [pick_succ hp, pick_succ hp, ih]
      cases hj : pick w g l k with
      | none => rfl
      | some j =>
        obtain ⟨hlt, q, hq, _⟩ := pick_lt hj
        simp only [beats, hq]
        rw [h k j p q hlt hp hq]
def anyOf (a b : Pod) : Bool := true
def leLoad (a b : Pod) : Bool := decide (a.load ≤ b.load)
theorem up_get {l : List Pod} (h : l.Pairwise (fun a b => a.id < b.id)) {i j : Nat} {p q : Pod} (hj : j < i) (hp : l[i]? = some p) (hq : l[j]? = some q) : q.id < p.id := by
  rw [List.pairwise_iff_getElem] at h
  have h1 := get_lt hp; have h2 := get_lt hq
  rw [List.getElem?_eq_getElem h1] at hp; rw [List.getElem?_eq_getElem h2] at hq
  cases hp; cases hq
  exact h j i h2 h1 hj
theorem best_gt {l : List Pod} (h : l.Pairwise (fun a b => a.id < b.id)) (st : Int) : best st gtId l = pick (fun p => p.state == st) anyOf l l.length :=
  pick_congr (fun i j p q hj hp hq => by unfold gtId anyOf; simp [up_get h hj hp hq]) _
theorem best_both {l : List Pod} (h : l.Pairwise (fun a b => a.id < b.id)) : best 3 ltBoth l = pick (fun p => p.state == 3) leLoad l l.length :=
  pick_congr (fun i j p q hj hp hq => by
    have := up_get h hj hp hq
    unfold ltBoth leLoad
    rw [decide_eq_true this, Bool.and_true, Bool.eq_iff_iff, Bool.or_eq_true]
    simp; omega) _
/-- the reference's choice at a look: a lower state first, of one state the later, of ready ones the one with less to do -/
def refLess (p b : Pod) : Bool := decide (p.state < b.state) || ((p.state == b.state) && (!(p.state == 3) || decide (p.load ≤ b.load)))
def refPick (l : List Pod) (k : Nat) : Option Nat := pick lives refLess l k
def progPick (l : List Pod) (k : Nat) : Option Nat :=
  match pick (fun p => p.state == 1) anyOf l k with
  | some i => some i
  | none => match pick (fun p => p.state == 2) anyOf l k with
    | some i => some i
    | none => pick (fun p => p.state == 3) leLoad l k
theorem ref_is_prog {l : List Pod} (hs : ∀ p ∈ l, 1 ≤ p.state ∧ p.state ≤ 4) : ∀ k, refPick l k = progPick l k
  | 0 => rfl
  | k + 1 => by
    have ih := ref_is_prog hs k
    cases hp : l[k]? with
    | none =>
      unfold refPick progPick pick
      rw [hp]; exact ih
    | some p =>
      have hb := hs p (List.mem_of_getElem? hp)
      unfold refPick progPick
      rw [pick_succ hp, pick_succ hp, pick_succ hp, pick_succ hp]
      have ih' : pick lives refLess l k = progPick l k := ih
      rw [ih']
      unfold progPick
      cases h1 : pick (fun p => p.state == 1) anyOf l k with
      | some i =>
        obtain ⟨_, q, hq, hqs⟩ := pick_lt h1
        have hqs' : q.state = 1 := by simpa using hqs
        simp only [beats, hq]
        unfold lives refLess anyOf
        by_cases e : p.state = 1
        · simp [e, hqs']
        · have : ¬ p.state < q.state := by omega
          simp [e, hqs', this]; omega
      | none =>
        cases h2 : pick (fun p => p.state == 2) anyOf l k with
        | some i =>
          obtain ⟨_, q, hq, hqs⟩ := pick_lt h2
          have hqs' : q.state = 2 := by simpa using hqs
          simp only [beats, hq]
          unfold lives refLess anyOf
          by_cases e1 : p.state = 1
          · simp [e1, hqs']
          · by_cases e2 : p.state = 2
            · simp [e2, hqs']
            · have : ¬ p.state < q.state := by omega
              simp [e1, e2, hqs', this]; omega
        | none =>
          cases h3 : pick (fun p => p.state == 3) leLoad l k with
          | some i =>
            obtain ⟨_, q, hq, hqs⟩ := pick_lt h3
            have hqs' : q.state = 3 := by simpa using hqs
            simp only [beats, hq]
            unfold lives refLess anyOf leLoad
            by_cases e1 : p.state = 1
            · simp [e1, hqs']
            · by_cases e2 : p.state = 2
              · simp [e2, hqs']
              · by_cases e3 : p.state = 3
                · simp [e3, hqs']
                · have e4 : p.state = 4 := by omega
                  simp [e4, hqs']
          | none =>
            simp only [beats]
            unfold lives anyOf
            by_cases e1 : p.state = 1
            · simp [e1]
            · by_cases e2 : p.state = 2
              · simp [e2]
              · by_cases e3 : p.state = 3
                · simp [e3]
                · have e4 : p.state = 4 := by omega
                  simp [e4]
/-- the reference's Give -/
def refGive (most : Int) (l : List Pod) (k : Nat) : Option Nat := pick (fun p => (p.state == 3) && decide (p.load < most)) ltLoad l k
theorem refGive_is {most : Int} {l : List Pod} : ∀ k, refGive most l k = (match pick (fun p => p.state == 3) ltLoad l k with | none => none | some i => if most ≤ loadAt l i then none else some i)
  | 0 => rfl
  | k + 1 => by
    have ih := refGive_is (most := most) (l := l) k
    cases hp : l[k]? with
    | none =>
      unfold refGive pick
      rw [hp]; exact ih
    | some p =>
      unfold refGive
      rw [pick_succ hp, pick_succ hp]
      have ih' : pick (fun p => (p.state == 3) && decide (p.load < most)) ltLoad l k = _ := ih
      rw [ih']
      by_cases e : p.state = 3
      · cases h : pick (fun p => p.state == 3) ltLoad l k with
        | none =>
          simp only [e, beats]
          by_cases c : p.load < most
          · have c' : ¬ most ≤ p.load := by omega
            simp [c, loadAt, hp, c']
          · have c' : most ≤ p.load := by omega
            simp [c, loadAt, hp, c']
        | some j =>
          obtain ⟨_, q, hq, _⟩ := pick_lt h
          have hl : loadAt l j = q.load := by unfold loadAt; rw [hq]; rfl
          have hk : loadAt l k = p.load := by unfold loadAt; rw [hp]; rfl
          simp only [e, hl, hq, beats]
          unfold ltLoad
          by_cases c1 : most ≤ q.load
          · simp only [if_pos c1]
            by_cases c2 : p.load < q.load
            · by_cases c3 : p.load < most
              · have : ¬ most ≤ p.load := by omega
                simp [c2, c3, hk, this]
              · have : most ≤ p.load := by omega
                simp [c2, c3, hk, this]
            · have c3 : ¬ p.load < most := by omega
              simp [c2, c3, hl, c1]
          · simp only [if_neg c1, hq, beats]
            by_cases c2 : p.load < q.load
            · have c3 : p.load < most := by omega
              have : ¬ most ≤ p.load := by omega
              simp [c2, c3, hk, this]
            · simp [c2, hl, c1]
      · cases h : pick (fun p => p.state == 3) ltLoad l k with
        | none => simp [e]
        | some j => simp [e]
end Tide


namespace Tide
theorem split_at {l : List Pod} {i : Nat} {p : Pod} (h : l[i]? = some p) : l = l.take i ++ p :: l.drop (i + 1) := by
  conv => lhs; rw [← List.take_append_drop i l]
  rw [drop_of_get h]
theorem erase_at {l : List Pod} {i : Nat} : l.eraseIdx i = l.take i ++ l.drop (i + 1) := List.eraseIdx_eq_take_drop_succ l i
theorem set_at {l : List Pod} {i : Nat} {p q : Pod} (h : l[i]? = some p) : l.set i q = l.take i ++ q :: l.drop (i + 1) := by
  rw [List.set_eq_take_append_cons_drop, if_pos (get_lt h)]
theorem live_erase {l : List Pod} {i : Nat} {p : Pod} (h : l[i]? = some p) : liveN (l.eraseIdx i) = liveN l - (if lives p then 1 else 0) := by
  unfold liveN
  conv => rhs; rw [split_at h]
  rw [erase_at, List.countP_append, List.countP_append, List.countP_cons]
  split <;> simp <;> omega
theorem live_set {l : List Pod} {i : Nat} {p q : Pod} (h : l[i]? = some p) : liveN (l.set i q) = liveN l - (if lives p then 1 else 0) + (if lives q then 1 else 0) := by
  unfold liveN
  conv => rhs; rw [split_at h]
  rw [set_at h, List.countP_append, List.countP_append, List.countP_cons, List.countP_cons]
  split <;> split <;> simp <;> omega
def sumL (l : List Pod) : Int := (l.map (·.load)).sum
theorem sum_erase {l : List Pod} {i : Nat} {p : Pod} (h : l[i]? = some p) : sumL (l.eraseIdx i) = sumL l - p.load := by
  unfold sumL
  conv => rhs; rw [split_at h]
  rw [erase_at, List.map_append, List.sum_append, List.map_append, List.sum_append, List.map_cons, List.sum_cons]
  omega
theorem sum_set {l : List Pod} {i : Nat} {p q : Pod} (h : l[i]? = some p) : sumL (l.set i q) = sumL l - p.load + q.load := by
  unfold sumL
  conv => rhs; rw [split_at h]
  rw [set_at h, List.map_append, List.sum_append, List.map_append, List.sum_append, List.map_cons, List.sum_cons, List.map_cons, List.sum_cons]
  omega
theorem best_at {st : Int} {f : Pod → Pod → Bool} {l : List Pod} {i : Nat} (h : best st f l = some i) : ∃ p, l[i]? = some p ∧ p.state = st := by
  obtain ⟨_, p, hp, hs⟩ := pick_lt h
  exact ⟨p, hp, by simpa using hs⟩
theorem best_no {st : Int} {f : Pod → Pod → Bool} {l : List Pod} (h : best st f l = none) : ∀ p ∈ l, p.state ≠ st := by
  intro p hp
  obtain ⟨i, hi⟩ := List.mem_iff_getElem?.1 hp
  have := pick_none h i p (get_lt hi) hi
  simpa using this
theorem victim {l : List Pod} (hs : ∀ p ∈ l, 1 ≤ p.state ∧ p.state ≤ 4) (hl : 0 < liveN l) (h1 : best 1 gtId l = none) (h2 : best 2 gtId l = none) : ∃ i, best 3 ltBoth l = some i := by
  cases h3 : best 3 ltBoth l with
  | some i => exact ⟨i, rfl⟩
  | none =>
    have : l.countP lives = 0 := by
      rw [List.countP_eq_zero]
      intro p hp
      have a := hs p hp; have b1 := best_no h1 p hp; have b2 := best_no h2 p hp; have b3 := best_no h3 p hp
      unfold lives
      have : p.state = 4 := by omega
      simp [this]
    unfold liveN at hl; omega
/-- what a look does: one that lives is taken, or is drained -/
theorem fewer_cases {l : List Pod} (hs : ∀ p ∈ l, 1 ≤ p.state ∧ p.state ≤ 4) (hl : 0 < liveN l) : ∃ i p, l[i]? = some p ∧ lives p = true ∧ p.state ≤ 3 ∧ ((fewerL l = l.eraseIdx i ∧ (p.state = 3 → p.load = 0)) ∨ (fewerL l = l.set i { p with state := 4 } ∧ p.state = 3 ∧ p.load ≠ 0)) := by
  unfold fewerL
  cases h1 : best 1 gtId l with
  | some i =>
    obtain ⟨p, hp, hs1⟩ := best_at h1
    exact ⟨i, p, hp, by unfold lives; rw [hs1]; rfl, by omega, .inl ⟨rfl, fun e => by omega⟩⟩
  | none =>
    cases h2 : best 2 gtId l with
    | some i =>
      obtain ⟨p, hp, hs1⟩ := best_at h2
      exact ⟨i, p, hp, by unfold lives; rw [hs1]; rfl, by omega, .inl ⟨rfl, fun e => by omega⟩⟩
    | none =>
      obtain ⟨i, h3⟩ := victim hs hl h1 h2
      obtain ⟨p, hp, hs1⟩ := best_at h3
      have hla : loadAt l i = p.load := by unfold loadAt; rw [hp]; rfl
      refine ⟨i, p, hp, by unfold lives; rw [hs1]; rfl, by omega, ?_⟩
      simp only [h3, hla]
      by_cases c : p.load = 0
      · exact .inl ⟨by rw [if_pos c], fun _ => c⟩
      · exact .inr ⟨by rw [if_neg c]; unfold drainAt; rw [hp], hs1, c⟩
theorem fewer_live {l : List Pod} (hs : ∀ p ∈ l, 1 ≤ p.state ∧ p.state ≤ 4) (hl : 0 < liveN l) : liveN (fewerL l) = liveN l - 1 := by
  obtain ⟨i, p, hp, hl, _, ⟨e, _⟩ | ⟨e, _, _⟩⟩ := fewer_cases hs hl
  · rw [e, live_erase hp, hl]; rfl
  · rw [e, live_set hp, hl]; simp [lives]
theorem mem_set {l : List Pod} {i : Nat} {q x : Pod} (h : x ∈ l.set i q) : x ∈ l ∨ x = q := List.mem_or_eq_of_mem_set h
theorem up_set {l : List Pod} {i : Nat} {p q : Pod} (h : l.Pairwise (fun a b => a.id < b.id)) (hp : l[i]? = some p) (e : q.id = p.id) : (l.set i q).Pairwise (fun a b => a.id < b.id) := by
  have h1 : (l.map (·.id)).Pairwise (· < ·) := by rw [List.pairwise_map]; exact h
  have h2 : (l.set i q).map (·.id) = l.map (·.id) := by
    rw [List.map_set, e]
    conv => rhs; rw [← List.set_getElem_self (show i < (l.map (·.id)).length by rw [List.length_map]; exact get_lt hp)]
    congr 1
    rw [List.getElem_map]
    have := List.getElem?_eq_getElem (get_lt hp)
    rw [this] at hp
    rw [Option.some.inj hp]
  rw [← h2, List.pairwise_map] at h1
  exact h1
theorem Crewed.erase {l : List Pod} {last most : Int} (h : Crewed l last most) (i : Nat) : Crewed (l.eraseIdx i) last most :=
  ⟨h.up.sublist (List.eraseIdx_sublist l i), fun p hp => h.ids p ((List.eraseIdx_sublist l i).subset hp), fun p hp => h.states p ((List.eraseIdx_sublist l i).subset hp), fun p hp => h.loads p ((List.eraseIdx_sublist l i).subset hp), h.last0⟩
theorem Crewed.set {l : List Pod} {last most : Int} (h : Crewed l last most) {i : Nat} {p q : Pod} (hp : l[i]? = some p) (e : q.id = p.id) (h1 : 1 ≤ q.state ∧ q.state ≤ 4) (h2 : 0 ≤ q.load ∧ q.load ≤ most ∧ (0 < q.load → 3 ≤ q.state) ∧ (q.state = 4 → 0 < q.load)) : Crewed (l.set i q) last most := by
  have hm := List.mem_of_getElem? hp
  refine ⟨up_set h.up hp e, fun x hx => ?_, fun x hx => ?_, fun x hx => ?_, h.last0⟩ <;> rcases mem_set hx with c | c
  · exact h.ids x c
  · rw [c, e]; exact h.ids p hm
  · exact h.states x c
  · rw [c]; exact h1
  · exact h.loads x c
  · rw [c]; exact h2
theorem Crewed.fewer {l : List Pod} {last most : Int} (h : Crewed l last most) (hl : 0 < liveN l) : Crewed (fewerL l) last most ∧ sumL (fewerL l) = sumL l ∧ (fewerL l).length ≤ l.length := by
  obtain ⟨i, p, hp, hlv, h3, ⟨e, hz⟩ | ⟨e, hz1, hz2⟩⟩ := fewer_cases h.states hl
  · have hl := h.loads p (List.mem_of_getElem? hp)
    have : p.load = 0 := by
      by_cases c : p.state = 3
      · exact hz c
      · have := hl.2.2.1; omega
    rw [e]
    exact ⟨h.erase i, by rw [sum_erase hp, this]; omega, (List.eraseIdx_sublist l i).length_le⟩
  · have hl := h.loads p (List.mem_of_getElem? hp)
    rw [e]
    exact ⟨h.set hp rfl ⟨show (1 : Int) ≤ 4 by decide, show (4 : Int) ≤ 4 by decide⟩ ⟨hl.1, hl.2.1, fun _ => by show (3:Int) ≤ 4; decide, fun _ => by show 0 < p.load; omega⟩, by rw [sum_set hp]; simp only; omega, by simp⟩
theorem newPods_length (last : Int) (m : Nat) : (newPods last m).length = m := by simp [newPods]
theorem newPods_succ (last : Int) (m : Nat) : newPods last (m + 1) = newPods last m ++ [⟨last + 1 + (m : Int), 1, 0⟩] := by
  unfold newPods; rw [List.range_succ, List.map_append]; rfl
theorem newPods_mem {last : Int} {m : Nat} {p : Pod} (h : p ∈ newPods last m) : last + 1 ≤ p.id ∧ p.id ≤ last + m ∧ p.state = 1 ∧ p.load = 0 := by
  unfold newPods at h
  obtain ⟨i, hi, rfl⟩ := List.mem_map.1 h
  rw [List.mem_range] at hi
  exact ⟨by simp only; omega, by simp only; omega, rfl, rfl⟩
theorem newPods_live (last : Int) (m : Nat) : (newPods last m).countP lives = m := by
  have : (newPods last m).countP lives = (newPods last m).length := by
    rw [List.countP_eq_length]
    intro p hp
    unfold lives; rw [(newPods_mem hp).2.2.1]; rfl
  rw [this, newPods_length]
theorem live_more (l : List Pod) (last : Int) (m : Nat) : liveN (l ++ newPods last m) = liveN l + m := by
  unfold liveN; rw [List.countP_append, newPods_live]; omega
theorem sum_more (l : List Pod) (last : Int) (m : Nat) : sumL (l ++ newPods last m) = sumL l := by
  unfold sumL
  rw [List.map_append, List.sum_append]
  have : ((newPods last m).map (·.load)) = List.replicate m 0 := by
    unfold newPods; rw [List.map_map]
    rw [List.eq_replicate_iff]
    exact ⟨by simp, fun b hb => by obtain ⟨i, _, rfl⟩ := List.mem_map.1 hb; rfl⟩
  rw [this]
  have h0 : ∀ k : Nat, (List.replicate k (0 : Int)).sum = 0 := fun k => by
    induction k with
    | zero => rfl
    | succ k ih => rw [List.replicate_succ, List.sum_cons, ih]; rfl
  rw [h0]; omega
theorem Crewed.more {l : List Pod} {last most : Int} (h : Crewed l last most) (hm : 0 ≤ most) (m : Nat) : Crewed (l ++ newPods last m) (last + m) most := by
  refine ⟨?_, fun p hp => ?_, fun p hp => ?_, fun p hp => ?_, by have := h.last0; omega⟩
  · rw [List.pairwise_append]
    refine ⟨h.up, ?_, fun a ha b hb => ?_⟩
    · unfold newPods
      rw [List.pairwise_map]
      exact List.pairwise_lt_range.imp (fun {a b} hab => by simp only; omega)
    · have := h.ids a ha; have := newPods_mem hb; omega
  all_goals
    rcases List.mem_append.1 hp with c | c
  · have := h.ids p c; omega
  · have := newPods_mem c; have := h.last0; omega
  · exact h.states p c
  · have := newPods_mem c; omega
  · exact h.loads p c
  · have := newPods_mem c; omega
theorem thinN_succ : ∀ (m : Nat) (l : List Pod), thinN (m + 1) l = fewerL (thinN m l)
  | 0, l => rfl
  | m + 1, l => by rw [thinN, thinN_succ m (fewerL l)]; rfl
theorem Crewed.thinN {l : List Pod} {last most : Int} (h : Crewed l last most) : ∀ m : Nat, (m : Int) ≤ liveN l → Crewed (thinN m l) last most ∧ liveN (thinN m l) = liveN l - m ∧ sumL (thinN m l) = sumL l ∧ (Tide.thinN m l).length ≤ l.length
  | 0, _ => ⟨h, by simp [Tide.thinN], rfl, Nat.le_refl _⟩
  | m + 1, hm => by
    obtain ⟨h1, h2, h3, h4⟩ := h.thinN m (by omega)
    have hp : 0 < liveN (Tide.thinN m l) := by omega
    obtain ⟨h5, h6, h7⟩ := h1.fewer hp
    rw [thinN_succ]
    exact ⟨h5, by rw [fewer_live h1.states hp, h2]; omega, by rw [h6, h3], Nat.le_trans h7 h4⟩
theorem liveN_nn (l : List Pod) : 0 ≤ liveN l := by unfold liveN; omega
theorem Crewed.scale {l : List Pod} {last most : Int} (h : Crewed l last most) (hm : 0 ≤ most) (n : Int) : Crewed (scaleLst l last n) (scaleLast l last n) most ∧ sumL (scaleLst l last n) = sumL l ∧ (scaleErr n = 0 → liveN (scaleLst l last n) = n) ∧ (scaleLst l last n).length ≤ l.length + 50 ∧ scaleLast l last n ≤ last + 50 := by
  have hn := liveN_nn l
  have h1 := h.more hm (scaleUp l n)
  have hlm := live_more l last (scaleUp l n)
  have hD : (scaleDown l n : Int) ≤ liveN (l ++ newPods last (scaleUp l n)) := by
    rw [hlm]; unfold scaleDown scaleUp; split <;> omega
  obtain ⟨h2, h3, h4, h5⟩ := h1.thinN (scaleDown l n) hD
  have hU : scaleUp l n ≤ 50 := by unfold scaleUp; split <;> omega
  refine ⟨h2, by unfold scaleLst; rw [h4, sum_more], fun he => ?_, ?_, by unfold scaleLast; omega⟩
  · unfold scaleErr at he
    split at he
    · cases he
    · rename_i hc
      unfold scaleLst
      rw [h3, hlm]
      unfold scaleDown scaleUp
      rw [if_neg hc, if_neg hc]; omega
  · unfold scaleLst
    rw [List.length_append, newPods_length] at h5
    omega
theorem findP_some {l : List Pod} {id : Int} {i : Nat} (h : findP l id = some i) : ∃ p, l[i]? = some p ∧ p.id = id := by
  obtain ⟨p, h1, h2, _⟩ := firstAt_spec h
  exact ⟨p, h1, by unfold podIs at h2; simpa using h2⟩
theorem Crewed.turn {l : List Pod} {last most : Int} (h : Crewed l last most) (id src dst : Int) (hs : src = 1 ∧ dst = 2 ∨ src = 2 ∧ dst = 3) : Crewed (turnLst l id src dst) last most ∧ sumL (turnLst l id src dst) = sumL l ∧ (turnLst l id src dst).length = l.length := by
  unfold turnLst
  cases hf : findP l id with
  | none => exact ⟨h, rfl, rfl⟩
  | some i =>
    obtain ⟨p, hp, _⟩ := findP_some hf
    simp only [hp]
    by_cases c : p.state = src
    · rw [if_pos c]
      have hl := h.loads p (List.mem_of_getElem? hp)
      have h0 : p.load = 0 := by have := hl.2.2.1; omega
      exact ⟨h.set hp rfl ⟨by simp only; omega, by simp only; omega⟩ ⟨hl.1, hl.2.1, fun e => by simp only at e; omega, fun e => by simp only at e; omega⟩, by rw [sum_set hp]; simp only; omega, by simp⟩
    · rw [if_neg c]; exact ⟨h, rfl, rfl⟩
theorem Crewed.crash {l : List Pod} {last most : Int} (h : Crewed l last most) (id : Int) : Crewed (crashLst l id) last most ∧ sumL (crashLst l id) = sumL l - crashNum l id ∧ (crashLst l id).length ≤ l.length := by
  unfold crashLst crashNum
  cases hf : findP l id with
  | none => exact ⟨h, by simp, Nat.le_refl _⟩
  | some i =>
    obtain ⟨p, hp, _⟩ := findP_some hf
    simp only
    exact ⟨h.erase i, by rw [sum_erase hp]; unfold loadAt; rw [hp]; rfl, (List.eraseIdx_sublist l i).length_le⟩
theorem giveAt_some {l : List Pod} {most : Int} {i : Nat} (h : giveAt l most = some i) : ∃ p, l[i]? = some p ∧ p.state = 3 ∧ p.load < most := by
  unfold giveAt at h
  cases hb : best 3 ltLoad l with
  | none => rw [hb] at h; cases h
  | some j =>
    rw [hb] at h
    simp only at h
    obtain ⟨p, hp, hs⟩ := best_at hb
    have hla : loadAt l j = p.load := by unfold loadAt; rw [hp]; rfl
    by_cases c : most ≤ loadAt l j
    · rw [if_pos c] at h; cases h
    · rw [if_neg c] at h; cases h; exact ⟨p, hp, hs, by omega⟩
theorem Crewed.give {l : List Pod} {last most : Int} (h : Crewed l last most) : Crewed (giveLst l most) last most ∧ sumL (giveLst l most) = sumL l + (if giveErr l most = 0 then 1 else 0) ∧ (giveLst l most).length = l.length := by
  unfold giveLst giveErr
  cases hg : giveAt l most with
  | none => exact ⟨h, by simp, rfl⟩
  | some i =>
    obtain ⟨p, hp, hs, hl⟩ := giveAt_some hg
    simp only [hp]
    have h1 := h.loads p (List.mem_of_getElem? hp)
    exact ⟨h.set hp rfl ⟨by simp only; omega, by simp only; omega⟩ ⟨by simp only; omega, by simp only; omega, fun _ => by simp only; omega, fun e => by simp only at e; omega⟩, by rw [sum_set hp]; simp; omega, by simp⟩
theorem Crewed.done {l : List Pod} {last most : Int} (h : Crewed l last most) (id : Int) : Crewed (podDoneLst l id) last most ∧ sumL (podDoneLst l id) = sumL l - (if podDoneErr l id = 0 then 1 else 0) ∧ (podDoneLst l id).length ≤ l.length := by
  unfold podDoneLst podDoneErr
  cases hf : findP l id with
  | none => exact ⟨h, by simp, Nat.le_refl _⟩
  | some i =>
    obtain ⟨p, hp, _⟩ := findP_some hf
    have hla : loadAt l i = p.load := by unfold loadAt; rw [hp]; rfl
    simp only [hp, hla]
    have h1 := h.loads p (List.mem_of_getElem? hp)
    have h2 := h.states p (List.mem_of_getElem? hp)
    by_cases c : p.load = 0
    · rw [if_pos c, if_pos c]; exact ⟨h, by simp, Nat.le_refl _⟩
    · rw [if_neg c, if_neg c]
      by_cases d : p.state = 4 ∧ p.load - 1 = 0
      · rw [if_pos d]
        exact ⟨h.erase i, by rw [sum_erase hp]; simp; omega, (List.eraseIdx_sublist l i).length_le⟩
      · rw [if_neg d]
        refine ⟨h.set hp rfl h2 ⟨by simp only; omega, by simp only; omega, fun _ => by simp only; omega, fun e => by simp only at e ⊢; omega⟩, by rw [sum_set hp]; simp; omega, by simp⟩
theorem Crewed.nil (most : Int) : Crewed [] 0 most := ⟨List.Pairwise.nil, by simp, by simp, by simp, by decide⟩
end Tide


namespace Go.Proofs.YtlfaogkdghnmcaaGreat
open Go.RowKit
set_option linter.unusedVariables false

theorem fle_info : (Tryz.prog.info? 59).map (fun i => (i.zero, i.size, i.bytes)) = some (some (.agg #[.int .i64 0, .int .i64 0, .int .i64 0]), 3, 24) := by kernel_rfl
/-- a fleet (T: its type): its own block g, its pods v -/
structure FAt (T : TypeId) (S : Nat → Prop) (w : World) (g : Nat) (v : Value) (l : List Tide.Pod) (last most : Int) : Prop where
  head : Tide.At w g T #[v, .int .i64 last, .int .i64 most]
  row : Tide.OwnRow S w 59 3 v l.length (l.flatMap Tide.Pod.enc)
  own : S g
  small : l.length ≤ 10000000
  lim : ∀ b, S b → b < w.heap.size
section
variable {T : TypeId} {S S' C : Nat → Prop} {w w' w0 : World} {g : Nat} {v : Value} {l : List Tide.Pod} {last most : Int}
theorem FAt.chg (h : FAt T S w g v l last most) (hc : Tide.Chg C w w') (hs : ∀ b, S b → ¬ C b) : FAt T S w' g v l last most :=
  ⟨h.head.chg hc (hs g h.own), h.row.chg hc hs, h.own, h.small, fun b hb => Nat.lt_of_lt_of_le (h.lim b hb) hc.size⟩
theorem FAt.below (h : FAt T S w g v l last most) (hb : Below w.heap.size w w') : FAt T S w' g v l last most :=
  h.chg (C := fun _ => False) (Tide.Chg.of_below hb (Nat.le_refl _)) (fun _ _ h => h)
theorem FAt.mono (h : FAt T S w g v l last most) (hs : ∀ b, b < w.heap.size → S b → S' b) (hl : ∀ b, S' b → b < w.heap.size) : FAt T S' w g v l last most :=
  ⟨h.head, h.row.mono hs, hs g h.head.inside h.own, h.small, hl⟩
theorem FAt.up (h : FAt T S w g v l last most) : FAt T (Tide.Plus S w0 w) w g v l last most :=
  h.mono (fun _ _ hb => .inl hb) (fun b hb => by rcases hb with hb | hb; exact h.lim b hb; exact hb.2)
theorem FAt.alloc (h : FAt T S w g v l last most) (o : Obj) : FAt T S (w.alloc o) g v l last most := h.chg (C := fun _ => False) ((Tide.Chg.refl _ w).alloc o) (fun _ _ h => h)
theorem FAt.drew (h : FAt T S w g v l last most) : FAt T S w.drew g v l last most := ⟨h.head.drew, h.row.drew, h.own, h.small, h.lim⟩
/-- one pod, cell by cell -/
theorem FAt.pod (h : FAt T S w g v l last most) {k : Nat} {p : Tide.Pod} (hk : l[k]? = some p) :
    ∃ b cap, v = .slice (some ⟨b, 0, none⟩) l.length cap ∧ S b ∧ l.length ≤ cap ∧ cap ≤ maxLen ∧ b < w.heap.size ∧ w.cell? ⟨b, k * 3, none⟩ = some (.int .i64 p.id) ∧ w.cell? ⟨b, k * 3 + 1, none⟩ = some (.int .i64 p.state) ∧ w.cell? ⟨b, k * 3 + 2, none⟩ = some (.int .i64 p.load) ∧ (∀ i, w.frozen? ⟨b, i, none⟩ = false) := by
  obtain ⟨b, cap, e, hS, h1, h2, h3⟩ := h.row.form (by have := Tide.get_lt hk; omega)
  exact ⟨b, cap, e, hS, h1, h2, h3.inside, h3.cell (Tide.flat_get (j := 0) Tide.Pod.enc_length hk rfl), h3.cell (Tide.flat_get (j := 1) Tide.Pod.enc_length hk rfl), h3.cell (Tide.flat_get (j := 2) Tide.Pod.enc_length hk rfl), h3.soft⟩
theorem FAt.apart (h : FAt T S w g v l last most) (hT : T ≠ 59) : ∀ b, v.ownBlock = some b → b ≠ g := h.row.apartAt h.head (Ne.symm hT)
end
theorem fle_drewN {B : Nat} {w w' : World} (h : Below B w w') (n : Nat) : Below B w (w'.drewN n) := ⟨h.os, h.tape, h.output, h.size, h.block⟩
def FleRead (w : World) (v : Value) (e : Ending) (w' : World) : Prop := e = .returned v ∧ Below w.heap.size w w'
set_option maxRecDepth 100000 in
set_option maxHeartbeats 1600000 in
theorem fleCount (S : Nat → Prop) (g : Nat) (v : Value) (l : List Tide.Pod) (last most : Int) (w : World) (h : FAt 149 S w g v l last most) :
    Calls Tryz.prog 141 #[.pointer (some ⟨g, 0, none⟩)] w (FleRead w (.int .i64 (Tide.liveN l))) := by
  obtain ⟨A, cap, rfl, _, _, _⟩ := h.row.slice
  have hc : w.cell? ⟨g, 0, none⟩ = some (.slice A l.length cap) := h.head.here rfl
  have hs := h.small
  have HH := Lib.hid h
  clear h
  go_enter Tryz.func141, Tryz.ntmps141
  go_wp2_with fail
  go_loopw [3, 11] (fun n i wr => ∃ k : Nat, k ≤ l.length ∧ i = .int .i64 k ∧ n = .int .i64 (((l.take k).countP Tide.lives : Nat) : Int) ∧ Below w.heap.size w wr) (fun _ i _ => l.length - (intOf i).toNat)
  case atStart => exact ⟨0, by omega, rfl, by simp, Below.refl _ _⟩
  case round =>
    clear hc
    obtain ⟨k, hk, rfl, rfl, hb⟩ := hrel
    by_cases hlt : k < l.length
    · obtain ⟨p, hp⟩ := Tide.get_some l hlt
      obtain ⟨b, cap', e, hS, _, _, hbl, c0, c1, c2, _⟩ := (HH.out.below hb).pod hp
      cases e
      have i0 : (0 : Int) ≤ (k : Int) := by omega
      have i1 : (k : Int) < (l.length : Int) := by omega
      have HC := Lib.hid (Tide.count_snoc (p := Tide.lives) hp)
      have hle : (l.take k).countP Tide.lives ≤ 10000000 := Nat.le_trans List.countP_le_length (by rw [List.length_take]; omega)
      generalize (l.take k).countP Tide.lives = N at HC hle ⊢
      have hle' : (N : Int) ≤ 10000000 := by omega
      have HB := Lib.hid (hb.alloc hb.size (.cells #[.int .i64 p.id, .int .i64 p.state, .int .i64 p.load] 59))
      clear hp hb hle
      cases hf : (p.state == 4)
      · have hf2 : (p.state != 4) = true := by simp only [bne, hf]; rfl
        have HT := Lib.hid (show Tide.lives p = true by unfold Tide.lives; rw [hf]; rfl)
        go_wp2_with fail
        go_roundw
        case rel => exact ⟨k + 1, by omega, by go_num, by rw [HC.out, HT.out]; go_num, HB.out⟩
        case measure => simp [intOf]; omega
      · have hf2 : (p.state != 4) = false := by simp only [bne, hf]; rfl
        have HT := Lib.hid (show Tide.lives p = false by unfold Tide.lives; rw [hf]; rfl)
        go_wp2_with fail
        go_roundw
        case rel => exact ⟨k + 1, by omega, by go_num, by rw [HC.out, HT.out]; go_num, HB.out⟩
        case measure => simp [intOf]; omega
    · have hke : k = l.length := by omega
      subst hke
      have HB := Lib.hid hb
      clear hb
      rw [List.take_length]
      go_wp2_with fail
      go_ret
      exact ⟨rfl, HB.out⟩
def podV (p : Tide.Pod) : Value := .agg #[.int .i64 p.id, .int .i64 p.state, .int .i64 p.load]
theorem fle_two (w : World) (a b : Obj) : Below w.heap.size w ((w.alloc a).alloc b) := ((Below.refl _ w).alloc (Nat.le_refl _) a).alloc (by simp) b
set_option maxHeartbeats 800000 in
theorem fleLess_gt (p q : Tide.Pod) (w : World) : Calls Tryz.prog 183 #[.agg #[.int .i64 p.id, .int .i64 p.state, .int .i64 p.load], .agg #[.int .i64 q.id, .int .i64 q.state, .int .i64 q.load]] w fun e w' => e = .returned (.bool (Tide.gtId p q)) ∧ Below w.heap.size w w' := by
  go_enter Tryz.func183, Tryz.ntmps183
  go_wp2_with fail
  go_ret
  exact ⟨rfl, fle_two _ _ _⟩
set_option maxHeartbeats 800000 in
theorem fleLess_lt (p q : Tide.Pod) (w : World) : Calls Tryz.prog 169 #[.agg #[.int .i64 p.id, .int .i64 p.state, .int .i64 p.load], .agg #[.int .i64 q.id, .int .i64 q.state, .int .i64 q.load]] w fun e w' => e = .returned (.bool (Tide.ltLoad p q)) ∧ Below w.heap.size w w' := by
  go_enter Tryz.func169, Tryz.ntmps169
  go_wp2_with fail
  go_ret
  exact ⟨rfl, fle_two _ _ _⟩
set_option maxHeartbeats 800000 in
theorem fleLess_both (p q : Tide.Pod) (w : World) : Calls Tryz.prog 184 #[.agg #[.int .i64 p.id, .int .i64 p.state, .int .i64 p.load], .agg #[.int .i64 q.id, .int .i64 q.state, .int .i64 q.load]] w fun e w' => e = .returned (.bool (Tide.ltBoth p q)) ∧ Below w.heap.size w w' := by
  by_cases h1 : p.load < q.load
  · have HT := Lib.hid (show Tide.ltBoth p q = true by unfold Tide.ltBoth; simp [h1])
    go_enter Tryz.func184, Tryz.ntmps184
    go_wp2_with fail
    go_ret
    exact ⟨by rw [HT.out] <;> rfl, fle_two _ _ _⟩
  · cases h2 : (p.load == q.load)
    · have HT := Lib.hid (show Tide.ltBoth p q = false by unfold Tide.ltBoth; simp [h1, h2])
      have h1' : decide (p.load < q.load) = false := decide_eq_false h1
      clear h1
      go_enter Tryz.func184, Tryz.ntmps184
      go_wp2_with fail
      go_ret
      exact ⟨by rw [HT.out] <;> rfl, fle_two _ _ _⟩
    · have HT := Lib.hid (show Tide.ltBoth p q = decide (q.id < p.id) by unfold Tide.ltBoth; simp [h1, h2])
      have h1' : decide (p.load < q.load) = false := decide_eq_false h1
      clear h1
      go_enter Tryz.func184, Tryz.ntmps184
      go_wp2_with fail
      go_ret
      exact ⟨by rw [HT.out] <;> rfl, fle_two _ _ _⟩
theorem fle_keep7 {W w1 : World} {x g b j n cap : Nat} {p q : Tide.Pod} (hb : Below W.heap.size W w1) (h1 : x < W.heap.size) (h2 : g < W.heap.size) (h3 : b < W.heap.size)
    (y : W.cell? ⟨x, 0, none⟩ = some (.int .i64 p.id) ∧ W.cell? ⟨x, 1, none⟩ = some (.int .i64 p.state) ∧ W.cell? ⟨x, 2, none⟩ = some (.int .i64 p.load) ∧ W.cell? ⟨g, 0, none⟩ = some (.slice (some ⟨b, 0, none⟩) n cap) ∧ W.cell? ⟨b, j * 3, none⟩ = some (.int .i64 q.id) ∧ W.cell? ⟨b, j * 3 + 1, none⟩ = some (.int .i64 q.state) ∧ W.cell? ⟨b, j * 3 + 2, none⟩ = some (.int .i64 q.load)) :
    w1.cell? ⟨x, 0, none⟩ = some (.int .i64 p.id) ∧ w1.cell? ⟨x, 1, none⟩ = some (.int .i64 p.state) ∧ w1.cell? ⟨x, 2, none⟩ = some (.int .i64 p.load) ∧ w1.cell? ⟨g, 0, none⟩ = some (.slice (some ⟨b, 0, none⟩) n cap) ∧ w1.cell? ⟨b, j * 3, none⟩ = some (.int .i64 q.id) ∧ w1.cell? ⟨b, j * 3 + 1, none⟩ = some (.int .i64 q.state) ∧ w1.cell? ⟨b, j * 3 + 2, none⟩ = some (.int .i64 q.load) := by
  obtain ⟨y0, y1, y2, y3, y4, y5, y6⟩ := y
  exact ⟨(hb.cell h1).trans y0, (hb.cell h1).trans y1, (hb.cell h1).trans y2, (hb.cell h2).trans y3, (hb.cell h3).trans y4, (hb.cell h3).trans y5, (hb.cell h3).trans y6⟩
/- best with the function (*fleet.Fleet).fewer$1 -/
set_option maxRecDepth 100000 in
set_option maxHeartbeats 6400000 in
theorem fleBest_gt (S : Nat → Prop) (g : Nat) (v : Value) (l : List Tide.Pod) (last most st : Int) (w : World) (h : FAt 149 S w g v l last most) :
    Calls Tryz.prog 168 #[.pointer (some ⟨g, 0, none⟩), .int .i64 st, .func (.func 183) #[] #[]] w (FleRead w (.int .i64 (Tide.idxOf (Tide.best st Tide.gtId l)))) := by
  obtain ⟨A, cap, rfl, _, _, _⟩ := h.row.slice
  have hc : w.cell? ⟨g, 0, none⟩ = some (.slice A l.length cap) := h.head.here rfl
  have hs := h.small
  have HH := Lib.hid h
  clear h
  go_enter Tryz.func168, Tryz.ntmps168
  go_wp2_with fail
  go_loopw [7, 15] (fun n i wr => ∃ k : Nat, k ≤ l.length ∧ i = .int .i64 k ∧ n = .int .i64 (Tide.idxOf (Tide.pick (fun p => p.state == st) Tide.gtId l k)) ∧ Below w.heap.size w wr) (fun _ i _ => l.length - (intOf i).toNat)
  case atStart => exact ⟨0, by omega, rfl, rfl, Below.refl _ _⟩
  case round =>
    clear hc
    obtain ⟨k, hk, rfl, rfl, hb⟩ := hrel
    by_cases hlt : k < l.length
    · obtain ⟨p, hp⟩ := Tide.get_some l hlt
      obtain ⟨b, cap', e, hS, _, _, hbl, c0, c1, c2, _⟩ := (HH.out.below hb).pod hp
      cases e
      have i0 : (0 : Int) ≤ (k : Int) := by omega
      have i1 : (k : Int) < (l.length : Int) := by omega
      have HP := Lib.hid hp
      have HB := Lib.hid (hb.alloc hb.size (.cells #[.int .i64 p.id, .int .i64 p.state, .int .i64 p.load] 59))
      have HX := Lib.hid (Tide.At.made wr 59 #[.int .i64 p.id, .int .i64 p.state, .int .i64 p.load])
      have HU := Lib.hid (Tide.pick_succ (w := fun p => p.state == st) (f := Tide.gtId) hp)
      clear hp hb
      cases hf : (p.state == st)
      · have HN := Lib.hid (show Tide.pick (fun p => p.state == st) Tide.gtId l (k + 1) = Tide.pick (fun p => p.state == st) Tide.gtId l k by rw [HU.out]; simp only [hf]; rfl)
        go_wp2_with fail
        go_quiet (fail)
        go_wp2_with fail
        go_roundw
        case rel => exact ⟨k + 1, by omega, by go_num, by rw [HN.out], fle_drewN HB.out _⟩
        case measure => simp [intOf]; omega
      · cases hj : Tide.pick (fun p => p.state == st) Tide.gtId l k with
        | none =>
          have HN := Lib.hid (show Tide.pick (fun p => p.state == st) Tide.gtId l (k + 1) = some k by rw [HU.out, hj]; simp only [hf, Tide.beats]; rfl)
          simp only [Tide.idxOf]
          clear hj
          go_wp2_with fail
          go_quiet (fail)
          go_wp2_with fail
          go_roundw
          case rel => exact ⟨k + 1, by omega, by go_num, by rw [HN.out] <;> rfl, fle_drewN HB.out _⟩
          case measure => simp [intOf]; omega
        | some j =>
          obtain ⟨hjk, q, hq, _⟩ := Tide.pick_lt hj
          obtain ⟨b', cap', e, _, _, _, _, d0, d1, d2, _⟩ := (HH.out.below HB.out).pod hq
          cases e
          have hc : (wr.alloc (.cells #[.int .i64 p.id, .int .i64 p.state, .int .i64 p.load] 59)).cell? ⟨g, 0, none⟩ = some (.slice (some ⟨b, 0, none⟩) l.length cap) := (HH.out.below HB.out).head.here rfl
          simp only [Tide.idxOf]
          have j0 : (0 : Int) ≤ (j : Int) := by omega
          have j1 : (j : Int) < (l.length : Int) := by omega
          have HL := Lib.hid (show Tide.pick (fun p => p.state == st) Tide.gtId l (k + 1) = if Tide.gtId p q then some k else some j by rw [HU.out, hj]; simp only [hf, Tide.beats, hq, Bool.true_and])
          have x0 := HX.out.here (i := 0) rfl; have x1 := HX.out.here (i := 1) rfl; have x2 := HX.out.here (i := 2) rfl
          clear hj hq
          go_upto_region 5 with fail
          clear c0 c1 c2
          generalize wr.alloc (.cells #[.int .i64 p.id, .int .i64 p.state, .int .i64 p.load] 59) = W at HB HX hc d0 d1 d2 x0 x1 x2 ⊢
          go_wp2_with fail
          have y : W.drew.cell? ⟨wr.heap.size, 0, none⟩ = some (.int .i64 p.id) ∧ W.drew.cell? ⟨wr.heap.size, 1, none⟩ = some (.int .i64 p.state) ∧ W.drew.cell? ⟨wr.heap.size, 2, none⟩ = some (.int .i64 p.load) ∧ W.drew.cell? ⟨g, 0, none⟩ = some (.slice (some ⟨b, 0, none⟩) l.length cap) ∧ W.drew.cell? ⟨b, j * 3, none⟩ = some (.int .i64 q.id) ∧ W.drew.cell? ⟨b, j * 3 + 1, none⟩ = some (.int .i64 q.state) ∧ W.drew.cell? ⟨b, j * 3 + 2, none⟩ = some (.int .i64 q.load) := ⟨x0, x1, x2, hc, d0, d1, d2⟩
          have hlt1 : wr.heap.size < W.drew.heap.size := HX.out.inside
          have hlt2 : g < W.drew.heap.size := World.block_lt_of_cell? W _ hc
          have hlt3 : b < W.drew.heap.size := World.block_lt_of_cell? W _ d0
          obtain ⟨ls, hls⟩ : ∃ ls, Hid (Tide.gtId p q = ls) := ⟨_, Lib.hid rfl⟩
          rw [hls.out] at HL
          go_region_held3 (fun w' => w'.cell? ⟨wr.heap.size, 0, none⟩ = some (.int .i64 p.id) ∧ w'.cell? ⟨wr.heap.size, 1, none⟩ = some (.int .i64 p.state) ∧ w'.cell? ⟨wr.heap.size, 2, none⟩ = some (.int .i64 p.load) ∧ w'.cell? ⟨g, 0, none⟩ = some (.slice (some ⟨b, 0, none⟩) l.length cap) ∧ w'.cell? ⟨b, j * 3, none⟩ = some (.int .i64 q.id) ∧ w'.cell? ⟨b, j * 3 + 1, none⟩ = some (.int .i64 q.state) ∧ w'.cell? ⟨b, j * 3 + 2, none⟩ = some (.int .i64 q.load)) (first | exact y1 | exact y | go_keep) ((go_at_call 183; refine (fleLess_gt p q _).mono ?_; rintro e w1 ⟨rfl, hb1⟩; rw [hls.out]; have y1 := fle_keep7 hb1 hlt1 hlt2 hlt3 y))
          all_goals
            have HB2 := Lib.hid (HB.out.drew.trans (hb1.mono HB.out.drew.size))
            clear x0 x1 x2 hc d0 d1 d2 y hb1 y1 hlt1 hlt2 hlt3 hls
            simp only [show decide ((j : Int) < 0) = false from decide_eq_false (by omega), Bool.false_or]
            cases ls
            · have HN := Lib.hid HL.out
              go_wp2_with fail
              go_roundw
              case rel => exact ⟨k + 1, by omega, by go_num, by rw [HN.out] <;> rfl, HB2.out⟩
              case measure => simp [intOf]; omega
            · have HN := Lib.hid HL.out
              go_wp2_with fail
              go_roundw
              case rel => exact ⟨k + 1, by omega, by go_num, by rw [HN.out] <;> rfl, HB2.out⟩
              case measure => simp [intOf]; omega
    · have hke : k = l.length := by omega
      subst hke
      have HB := Lib.hid hb
      clear hb
      go_wp2_with fail
      go_ret
      exact ⟨rfl, HB.out⟩
/- best with the function (*fleet.Fleet).fewer$2 -/
set_option maxRecDepth 100000 in
set_option maxHeartbeats 6400000 in
theorem fleBest_both (S : Nat → Prop) (g : Nat) (v : Value) (l : List Tide.Pod) (last most st : Int) (w : World) (h : FAt 149 S w g v l last most) :
    Calls Tryz.prog 168 #[.pointer (some ⟨g, 0, none⟩), .int .i64 st, .func (.func 184) #[] #[]] w (FleRead w (.int .i64 (Tide.idxOf (Tide.best st Tide.ltBoth l)))) := by
  obtain ⟨A, cap, rfl, _, _, _⟩ := h.row.slice
  have hc : w.cell? ⟨g, 0, none⟩ = some (.slice A l.length cap) := h.head.here rfl
  have hs := h.small
  have HH := Lib.hid h
  clear h
  go_enter Tryz.func168, Tryz.ntmps168
  go_wp2_with fail
  go_loopw [7, 15] (fun n i wr => ∃ k : Nat, k ≤ l.length ∧ i = .int .i64 k ∧ n = .int .i64 (Tide.idxOf (Tide.pick (fun p => p.state == st) Tide.ltBoth l k)) ∧ Below w.heap.size w wr) (fun _ i _ => l.length - (intOf i).toNat)
  case atStart => exact ⟨0, by omega, rfl, rfl, Below.refl _ _⟩
  case round =>
    clear hc
    obtain ⟨k, hk, rfl, rfl, hb⟩ := hrel
    by_cases hlt : k < l.length
    · obtain ⟨p, hp⟩ := Tide.get_some l hlt
      obtain ⟨b, cap', e, hS, _, _, hbl, c0, c1, c2, _⟩ := (HH.out.below hb).pod hp
      cases e
      have i0 : (0 : Int) ≤ (k : Int) := by omega
      have i1 : (k : Int) < (l.length : Int) := by omega
      have HP := Lib.hid hp
      have HB := Lib.hid (hb.alloc hb.size (.cells #[.int .i64 p.id, .int .i64 p.state, .int .i64 p.load] 59))
      have HX := Lib.hid (Tide.At.made wr 59 #[.int .i64 p.id, .int .i64 p.state, .int .i64 p.load])
      have HU := Lib.hid (Tide.pick_succ (w := fun p => p.state == st) (f := Tide.ltBoth) hp)
      clear hp hb
      cases hf : (p.state == st)
      · have HN := Lib.hid (show Tide.pick (fun p => p.state == st) Tide.ltBoth l (k + 1) = Tide.pick (fun p => p.state == st) Tide.ltBoth l k by rw [HU.out]; simp only [hf]; rfl)
        go_wp2_with fail
        go_quiet (fail)
        go_wp2_with fail
        go_roundw
        case rel => exact ⟨k + 1, by omega, by go_num, by rw [HN.out], fle_drewN HB.out _⟩
        case measure => simp [intOf]; omega
      · cases hj : Tide.pick (fun p => p.state == st) Tide.ltBoth l k with
        | none =>
          have HN := Lib.hid (show Tide.pick (fun p => p.state == st) Tide.ltBoth l (k + 1) = some k by rw [HU.out, hj]; simp only [hf, Tide.beats]; rfl)
          simp only [Tide.idxOf]
          clear hj
          go_wp2_with fail
          go_quiet (fail)
          go_wp2_with fail
          go_roundw
          case rel => exact ⟨k + 1, by omega, by go_num, by rw [HN.out] <;> rfl, fle_drewN HB.out _⟩
          case measure => simp [intOf]; omega
        | some j =>
          obtain ⟨hjk, q, hq, _⟩ := Tide.pick_lt hj
          obtain ⟨b', cap', e, _, _, _, _, d0, d1, d2, _⟩ := (HH.out.below HB.out).pod hq
          cases e
          have hc : (wr.alloc (.cells #[.int .i64 p.id, .int .i64 p.state, .int .i64 p.load] 59)).cell? ⟨g, 0, none⟩ = some (.slice (some ⟨b, 0, none⟩) l.length cap) := (HH.out.below HB.out).head.here rfl
          simp only [Tide.idxOf]
          have j0 : (0 : Int) ≤ (j : Int) := by omega
          have j1 : (j : Int) < (l.length : Int) := by omega
          have HL := Lib.hid (show Tide.pick (fun p => p.state == st) Tide.ltBoth l (k + 1) = if Tide.ltBoth p q then some k else some j by rw [HU.out, hj]; simp only [hf, Tide.beats, hq, Bool.true_and])
          have x0 := HX.out.here (i := 0) rfl; have x1 := HX.out.here (i := 1) rfl; have x2 := HX.out.here (i := 2) rfl
          clear hj hq
          go_upto_region 5 with fail
          clear c0 c1 c2
          generalize wr.alloc (.cells #[.int .i64 p.id, .int .i64 p.state, .int .i64 p.load] 59) = W at HB HX hc d0 d1 d2 x0 x1 x2 ⊢
          go_wp2_with fail
          have y : W.drew.cell? ⟨wr.heap.size, 0, none⟩ = some (.int .i64 p.id) ∧ W.drew.cell? ⟨wr.heap.size, 1, none⟩ = some (.int .i64 p.state) ∧ W.drew.cell? ⟨wr.heap.size, 2, none⟩ = some (.int .i64 p.load) ∧ W.drew.cell? ⟨g, 0, none⟩ = some (.slice (some ⟨b, 0, none⟩) l.length cap) ∧ W.drew.cell? ⟨b, j * 3, none⟩ = some (.int .i64 q.id) ∧ W.drew.cell? ⟨b, j * 3 + 1, none⟩ = some (.int .i64 q.state) ∧ W.drew.cell? ⟨b, j * 3 + 2, none⟩ = some (.int .i64 q.load) := ⟨x0, x1, x2, hc, d0, d1, d2⟩
          have hlt1 : wr.heap.size < W.drew.heap.size := HX.out.inside
          have hlt2 : g < W.drew.heap.size := World.block_lt_of_cell? W _ hc
          have hlt3 : b < W.drew.heap.size := World.block_lt_of_cell? W _ d0
          obtain ⟨ls, hls⟩ : ∃ ls, Hid (Tide.ltBoth p q = ls) := ⟨_, Lib.hid rfl⟩
          rw [hls.out] at HL
          go_region_held3 (fun w' => w'.cell? ⟨wr.heap.size, 0, none⟩ = some (.int .i64 p.id) ∧ w'.cell? ⟨wr.heap.size, 1, none⟩ = some (.int .i64 p.state) ∧ w'.cell? ⟨wr.heap.size, 2, none⟩ = some (.int .i64 p.load) ∧ w'.cell? ⟨g, 0, none⟩ = some (.slice (some ⟨b, 0, none⟩) l.length cap) ∧ w'.cell? ⟨b, j * 3, none⟩ = some (.int .i64 q.id) ∧ w'.cell? ⟨b, j * 3 + 1, none⟩ = some (.int .i64 q.state) ∧ w'.cell? ⟨b, j * 3 + 2, none⟩ = some (.int .i64 q.load)) (first | exact y1 | exact y | go_keep) ((go_at_call 184; refine (fleLess_both p q _).mono ?_; rintro e w1 ⟨rfl, hb1⟩; rw [hls.out]; have y1 := fle_keep7 hb1 hlt1 hlt2 hlt3 y))
          all_goals
            have HB2 := Lib.hid (HB.out.drew.trans (hb1.mono HB.out.drew.size))
            clear x0 x1 x2 hc d0 d1 d2 y hb1 y1 hlt1 hlt2 hlt3 hls
            simp only [show decide ((j : Int) < 0) = false from decide_eq_false (by omega), Bool.false_or]
            cases ls
            · have HN := Lib.hid HL.out
              go_wp2_with fail
              go_roundw
              case rel => exact ⟨k + 1, by omega, by go_num, by rw [HN.out] <;> rfl, HB2.out⟩
              case measure => simp [intOf]; omega
            · have HN := Lib.hid HL.out
              go_wp2_with fail
              go_roundw
              case rel => exact ⟨k + 1, by omega, by go_num, by rw [HN.out] <;> rfl, HB2.out⟩
              case measure => simp [intOf]; omega
    · have hke : k = l.length := by omega
      subst hke
      have HB := Lib.hid hb
      clear hb
      go_wp2_with fail
      go_ret
      exact ⟨rfl, HB.out⟩
/- best with the function (*fleet.Fleet).Give$1 -/
set_option maxRecDepth 100000 in
set_option maxHeartbeats 6400000 in
theorem fleBest_lt (S : Nat → Prop) (g : Nat) (v : Value) (l : List Tide.Pod) (last most st : Int) (w : World) (h : FAt 149 S w g v l last most) :
    Calls Tryz.prog 168 #[.pointer (some ⟨g, 0, none⟩), .int .i64 st, .func (.func 169) #[] #[]] w (FleRead w (.int .i64 (Tide.idxOf (Tide.best st Tide.ltLoad l)))) := by
  obtain ⟨A, cap, rfl, _, _, _⟩ := h.row.slice
  have hc : w.cell? ⟨g, 0, none⟩ = some (.slice A l.length cap) := h.head.here rfl
  have hs := h.small
  have HH := Lib.hid h
  clear h
  go_enter Tryz.func168, Tryz.ntmps168
  go_wp2_with fail
  go_loopw [7, 15] (fun n i wr => ∃ k : Nat, k ≤ l.length ∧ i = .int .i64 k ∧ n = .int .i64 (Tide.idxOf (Tide.pick (fun p => p.state == st) Tide.ltLoad l k)) ∧ Below w.heap.size w wr) (fun _ i _ => l.length - (intOf i).toNat)
  case atStart => exact ⟨0, by omega, rfl, rfl, Below.refl _ _⟩
  case round =>
    clear hc
    obtain ⟨k, hk, rfl, rfl, hb⟩ := hrel
    by_cases hlt : k < l.length
    · obtain ⟨p, hp⟩ := Tide.get_some l hlt
      obtain ⟨b, cap', e, hS, _, _, hbl, c0, c1, c2, _⟩ := (HH.out.below hb).pod hp
      cases e
      have i0 : (0 : Int) ≤ (k : Int) := by omega
      have i1 : (k : Int) < (l.length : Int) := by omega
      have HP := Lib.hid hp
      have HB := Lib.hid (hb.alloc hb.size (.cells #[.int .i64 p.id, .int .i64 p.state, .int .i64 p.load] 59))
      have HX := Lib.hid (Tide.At.made wr 59 #[.int .i64 p.id, .int .i64 p.state, .int .i64 p.load])
      have HU := Lib.hid (Tide.pick_succ (w := fun p => p.state == st) (f := Tide.ltLoad) hp)
      clear hp hb
      cases hf : (p.state == st)
      · have HN := Lib.hid (show Tide.pick (fun p => p.state == st) Tide.ltLoad l (k + 1) = Tide.pick (fun p => p.state == st) Tide.ltLoad l k by rw [HU.out]; simp only [hf]; rfl)
        go_wp2_with fail
        go_quiet (fail)
        go_wp2_with fail
        go_roundw
        case rel => exact ⟨k + 1, by omega, by go_num, by rw [HN.out], fle_drewN HB.out _⟩
        case measure => simp [intOf]; omega
      · cases hj : Tide.pick (fun p => p.state == st) Tide.ltLoad l k with
        | none =>
          have HN := Lib.hid (show Tide.pick (fun p => p.state == st) Tide.ltLoad l (k + 1) = some k by rw [HU.out, hj]; simp only [hf, Tide.beats]; rfl)
          simp only [Tide.idxOf]
          clear hj
          go_wp2_with fail
          go_quiet (fail)
          go_wp2_with fail
          go_roundw
          case rel => exact ⟨k + 1, by omega, by go_num, by rw [HN.out] <;> rfl, fle_drewN HB.out _⟩
          case measure => simp [intOf]; omega
        | some j =>
          obtain ⟨hjk, q, hq, _⟩ := Tide.pick_lt hj
          obtain ⟨b', cap', e, _, _, _, _, d0, d1, d2, _⟩ := (HH.out.below HB.out).pod hq
          cases e
          have hc : (wr.alloc (.cells #[.int .i64 p.id, .int .i64 p.state, .int .i64 p.load] 59)).cell? ⟨g, 0, none⟩ = some (.slice (some ⟨b, 0, none⟩) l.length cap) := (HH.out.below HB.out).head.here rfl
          simp only [Tide.idxOf]
          have j0 : (0 : Int) ≤ (j : Int) := by omega
          have j1 : (j : Int) < (l.length : Int) := by omega
          have HL := Lib.hid (show Tide.pick (fun p => p.state == st) Tide.ltLoad l (k + 1) = if Tide.ltLoad p q then some k else some j by rw [HU.out, hj]; simp only [hf, Tide.beats, hq, Bool.true_and])
          have x0 := HX.out.here (i := 0) rfl; have x1 := HX.out.here (i := 1) rfl; have x2 := HX.out.here (i := 2) rfl
          clear hj hq
          go_upto_region 5 with fail
          clear c0 c1 c2
          generalize wr.alloc (.cells #[.int .i64 p.id, .int .i64 p.state, .int .i64 p.load] 59) = W at HB HX hc d0 d1 d2 x0 x1 x2 ⊢
          go_wp2_with fail
          have y : W.drew.cell? ⟨wr.heap.size, 0, none⟩ = some (.int .i64 p.id) ∧ W.drew.cell? ⟨wr.heap.size, 1, none⟩ = some (.int .i64 p.state) ∧ W.drew.cell? ⟨wr.heap.size, 2, none⟩ = some (.int .i64 p.load) ∧ W.drew.cell? ⟨g, 0, none⟩ = some (.slice (some ⟨b, 0, none⟩) l.length cap) ∧ W.drew.cell? ⟨b, j * 3, none⟩ = some (.int .i64 q.id) ∧ W.drew.cell? ⟨b, j * 3 + 1, none⟩ = some (.int .i64 q.state) ∧ W.drew.cell? ⟨b, j * 3 + 2, none⟩ = some (.int .i64 q.load) := ⟨x0, x1, x2, hc, d0, d1, d2⟩
          have hlt1 : wr.heap.size < W.drew.heap.size := HX.out.inside
          have hlt2 : g < W.drew.heap.size := World.block_lt_of_cell? W _ hc
          have hlt3 : b < W.drew.heap.size := World.block_lt_of_cell? W _ d0
          obtain ⟨ls, hls⟩ : ∃ ls, Hid (Tide.ltLoad p q = ls) := ⟨_, Lib.hid rfl⟩
          rw [hls.out] at HL
          go_region_held3 (fun w' => w'.cell? ⟨wr.heap.size, 0, none⟩ = some (.int .i64 p.id) ∧ w'.cell? ⟨wr.heap.size, 1, none⟩ = some (.int .i64 p.state) ∧ w'.cell? ⟨wr.heap.size, 2, none⟩ = some (.int .i64 p.load) ∧ w'.cell? ⟨g, 0, none⟩ = some (.slice (some ⟨b, 0, none⟩) l.length cap) ∧ w'.cell? ⟨b, j * 3, none⟩ = some (.int .i64 q.id) ∧ w'.cell? ⟨b, j * 3 + 1, none⟩ = some (.int .i64 q.state) ∧ w'.cell? ⟨b, j * 3 + 2, none⟩ = some (.int .i64 q.load)) (first | exact y1 | exact y | go_keep) ((go_at_call 169; refine (fleLess_lt p q _).mono ?_; rintro e w1 ⟨rfl, hb1⟩; rw [hls.out]; have y1 := fle_keep7 hb1 hlt1 hlt2 hlt3 y))
          all_goals
            have HB2 := Lib.hid (HB.out.drew.trans (hb1.mono HB.out.drew.size))
            clear x0 x1 x2 hc d0 d1 d2 y hb1 y1 hlt1 hlt2 hlt3 hls
            simp only [show decide ((j : Int) < 0) = false from decide_eq_false (by omega), Bool.false_or]
            cases ls
            · have HN := Lib.hid HL.out
              go_wp2_with fail
              go_roundw
              case rel => exact ⟨k + 1, by omega, by go_num, by rw [HN.out] <;> rfl, HB2.out⟩
              case measure => simp [intOf]; omega
            · have HN := Lib.hid HL.out
              go_wp2_with fail
              go_roundw
              case rel => exact ⟨k + 1, by omega, by go_num, by rw [HN.out] <;> rfl, HB2.out⟩
              case measure => simp [intOf]; omega
    · have hke : k = l.length := by omega
      subst hke
      have HB := Lib.hid hb
      clear hb
      go_wp2_with fail
      go_ret
      exact ⟨rfl, HB.out⟩
end Go.Proofs.YtlfaogkdghnmcaaGreat


namespace Go.Proofs.YtlfaogkdghnmcaaGreat
open Go.RowKit
set_option linter.unusedVariables false
def fle_zero : List Value := [.int .i64 0, .int .i64 0, .int .i64 0]
/-- slices.Delete of one element, at []api.Pod -/
theorem fle_clear (w : World) (ty : TypeId) (b o c : Nat) (hc : ∀ j, j < 3 → (w.cell? ⟨b, o + j, none⟩).isSome = true) (hf : ∀ j, j < 3 → w.frozen? ⟨b, o + j, none⟩ = false) :
    (Builtin.clear_ #[47] ty #[.slice (some ⟨b, o, none⟩) 1 c]).run Tryz.prog w = .ok (.tuple #[]) (w.setCells b o fle_zero) := by
  have hv : ∀ w, (zeroValue 59).run Tryz.prog w = .ok (.agg #[.int .i64 0, .int .i64 0, .int .i64 0]) w := fun w => by kernel_rfl
  have hst := run_storeCells_cells (P := Tryz.prog) b o fle_zero 0 w (by simpa [fle_zero] using hc) (by simpa [fle_zero] using hf) (by simp [fle_zero, Value.oneCell'])
  simp only [Nat.add_zero] at hst
  have hzc : (Builtin.zeroCells (Value.agg #[.int .i64 0, .int .i64 0, .int .i64 0]).cells 1).toList = fle_zero := by kernel_rfl
  simp [Builtin.clear_, run_underlying Tryz.underlying47, hv, hzc, hst]

set_option maxRecDepth 100000 in
set_option maxHeartbeats 4000000 in
theorem fle_delete (S : Nat → Prop) (w : World) (b cap n i : Nat) (xs : List Value) (h : Tide.OwnRow S w 59 3 (.slice (some ⟨b, 0, none⟩) n cap) n xs) (hi : i < n) (h1 : ∀ u ∈ xs, u.oneCell' = true) :
    Calls Tryz.prog 171 #[.slice (some ⟨b, 0, none⟩) n cap, .int .i64 i, .int .i64 ((i : Int) + 1)] w fun e w' => e = .returned (.slice (some ⟨b, 0, none⟩) (n - 1) cap) ∧
      Tide.OwnRow S w' 59 3 (.slice (some ⟨b, 0, none⟩) (n - 1) cap) (n - 1) (xs.take (i * 3) ++ xs.drop ((i + 1) * 3)) ∧ Tide.Chg (fun x => x = b) w w' := by
  obtain ⟨b', cap', e, hS, hcap, hmax, hrow⟩ := h.form (by omega)
  cases e
  have hlen := h.1
  obtain ⟨news, hnews⟩ : ∃ news, news = xs.drop ((i + 1) * 3) := ⟨_, rfl⟩
  have hnl : news.length = (n - (i + 1)) * 3 := by rw [hnews, List.length_drop, hlen]; omega
  obtain ⟨A, hA, hsrc⟩ : ∃ A : Addr, (if cap = i + 1 then some (⟨b, 0, none⟩ : Addr) else some ⟨b, (i + 1) * 3, none⟩) = some A ∧ Hid (∀ t u, news[t]? = some u → w.drew.cell? (A.add t) = some u) := by
    by_cases hc : cap = i + 1
    · refine ⟨⟨b, 0, none⟩, by simp [hc], fun t u hu => ?_⟩
      have h0 : news.length = 0 := by rw [hnl]; omega
      rw [List.length_eq_zero_iff.1 h0] at hu
      simp at hu
    · refine ⟨⟨b, (i + 1) * 3, none⟩, by simp [hc], fun t u hu => ?_⟩
      rw [hnews, List.getElem?_drop] at hu
      rw [Addr.add_lit]
      exact hrow.cell hu
  have s2 : Hid (∀ u ∈ news, u.oneCell' = true) := fun u hu => h1 u (List.mem_of_mem_drop (by rw [hnews] at hu; exact hu))
  have s3 : Hid (∀ t, t < news.length → (w.drew.cell? ⟨b, 0 + i * 3 + t, none⟩).isSome = true ∧ w.drew.frozen? ⟨b, 0 + i * 3 + t, none⟩ = false) := by
    intro t ht
    rw [hnl] at ht
    have hlt : 0 + i * 3 + t < xs.length := by rw [hlen]; omega
    exact ⟨by show (w.cell? _).isSome = true; rw [hrow.cell (List.getElem?_eq_getElem hlt)]; rfl, hrow.soft _⟩
  obtain ⟨W1, hW1⟩ : ∃ W1, W1 = w.drew.setCells b (0 + i * 3) news := ⟨_, rfl⟩
  have hR1 : Tide.RowIn W1 b 59 (cap * 3) (xs.take (0 + i * 3) ++ news ++ xs.drop (0 + i * 3 + news.length)) := by
    rw [hW1]; exact Tide.RowIn.puts news _ hrow.drew (by rw [hlen, hnl]; omega)
  have hch1 : Tide.Chg (fun x => x = b) w W1 := by rw [hW1]; exact Tide.Chg.puts (S := fun x => x = b) (.inl rfl) _ _ (Tide.Chg.refl _ w).drew
  have hl1 : (xs.take (0 + i * 3) ++ news ++ xs.drop (0 + i * 3 + news.length)).length = n * 3 := by simp [hnl, hlen]; omega
  have hcl : ∀ ty c, (Builtin.clear_ #[47] ty #[.slice (some ⟨b, (i + (n - (i + 1))) * 3, none⟩) (n - (i + (n - (i + 1)))) c]).run Tryz.prog W1 = .ok (.tuple #[]) (W1.setCells b ((n - 1) * 3) fle_zero) := by
    rw [show i + (n - (i + 1)) = n - 1 by omega, show n - (n - 1) = 1 by omega]
    exact fun ty c => fle_clear W1 ty b _ _ (fun t ht => by
      rw [hR1.cell (List.getElem?_eq_getElem (show (n - 1) * 3 + t < _ by rw [hl1]; omega))]; rfl) (fun t ht => hR1.soft _)
  have hfin : Tide.OwnRow S (W1.setCells b ((n - 1) * 3) fle_zero) 59 3 (.slice (some ⟨b, 0, none⟩) (n - 1) cap) (n - 1) (xs.take (i * 3) ++ xs.drop ((i + 1) * 3)) := by
    have hR2 := (Tide.RowIn.puts fle_zero ((n - 1) * 3) hR1 (by rw [hl1]; simp [fle_zero]; omega)).fewer ((n - 1) * 3)
    have e : (List.take ((n - 1) * 3) (xs.take (0 + i * 3) ++ news ++ xs.drop (0 + i * 3 + news.length)) ++ fle_zero ++ List.drop ((n - 1) * 3 + fle_zero.length) (xs.take (0 + i * 3) ++ news ++ xs.drop (0 + i * 3 + news.length))).take ((n - 1) * 3) = xs.take (i * 3) ++ xs.drop ((i + 1) * 3) := by
      have e1 : (xs.take (0 + i * 3) ++ news).length = (n - 1) * 3 := by simp [hnl, hlen]; omega
      rw [List.append_assoc, List.take_append_of_le_length (by rw [List.length_take, hl1]; omega), List.take_take, Nat.min_self, List.take_append_of_le_length (by omega), List.take_of_length_le (by omega), Nat.zero_add, hnews]
    rw [e] at hR2
    refine ⟨by simp [hlen]; omega, .inr ⟨b, cap, rfl, hS, by omega, hmax, hR2⟩⟩
  have hch2 : Tide.Chg (fun x => x = b) w (W1.setCells b ((n - 1) * 3) fle_zero) := Tide.Chg.puts (S := fun x => x = b) (.inl rfl) _ _ hch1
  have HF := Lib.hid hfin; have HC := Lib.hid hch2; have HW := Lib.hid hW1
  have q1 : i ≤ cap := by omega
  have q2 : i + 1 ≤ cap := by omega
  have q3 : (i : Int) + 1 ≤ (n : Int) := by omega
  have q6 : (0 : Int) ≤ (i : Int) + 1 := by omega
  have q4 : n ≤ cap := hcap
  have q5 : cap ≤ 9223372036854775807 := hmax
  have hsl := Lib.hid hnl
  have hn1 := Lib.hid (show i + (n - (i + 1)) = n - 1 by omega)
  have HA := Lib.hid hA
  obtain ⟨i0, hi0, hz0, hz1, hz2⟩ := info_parts fle_info
  clear h hrow hlen hnews hnl hR1 hl1 hch1 hch2 hfin hW1 h1 hcap hmax
  go_enter Tryz.func171, Tryz.ntmps171
  go_wp2_with fail
  clear hA
  go_region_law (refine step_append_room (by rfl) (.tmp 22) (.tmp 25) 47 (by rfl) 59 i0 3 Tryz.underlying47 hi0 hz1 b 0 i cap (by simp [Act.eval, Act.put]) A (n - (i + 1)) (cap - (i + 1)) news (by simp [Act.eval, Act.put, HA.out]) hsl.out hsrc.out s2.out (by omega) s3.out ?_; rw [← HW.out])
  go_wp2_with fail
  all_goals
    go_ret
    have hf := HF.out
    by_cases hcc : cap = i + 1
    · rw [hcc] at hf
      first | exact ⟨(by rw [hn1.out] <;> rfl), hf, HC.out⟩ | exact absurd hcc ‹_›
    · first | exact ⟨(by rw [hn1.out] <;> rfl), hf, HC.out⟩ | exact absurd ‹cap = i + 1› hcc
/-- slices.Clone at []api.Pod -/
def fle_ClonePost (w : World) (n : Nat) (xs : List Value) (e : Ending) (w' : World) : Prop := ∃ v', e = .returned v' ∧ Tide.OwnRow (fun b => w.heap.size ≤ b) w' 59 3 v' n xs ∧ Below w.heap.size w w'
set_option maxRecDepth 100000 in
set_option maxHeartbeats 4000000 in
theorem fle_clone (S : Nat → Prop) (w : World) (v : Value) (n : Nat) (xs : List Value) (h : Tide.OwnRow S w 59 3 v n xs) (hn : n ≤ 100000000) (h1 : ∀ u ∈ xs, u.oneCell' = true) :
    Calls Tryz.prog 110 #[v] w (fle_ClonePost w n xs) := by
  have heq := @Lib.run_eql_slice_nil Tryz.prog
  rcases h.2 with ⟨rfl, rfl⟩ | ⟨g, cap, rfl, hS, hcap, hmax, hrow⟩
  · have hx : xs = [] := List.length_eq_zero_iff.1 (h.1.trans (Nat.zero_mul _))
    have HF := Lib.hid (show fle_ClonePost w 0 xs (.returned (.slice none 0 0)) w from ⟨_, rfl, by rw [hx]; exact Tide.OwnRow.nil _ _ _ _, Below.refl _ _⟩)
    have hq := fun w => Lib.run_eql_slice_nil (P := Tryz.prog) w 47 59 none 0 0 0 0 Tryz.underlying47
    clear h hx heq
    go_enter Tryz.func110, Tryz.ntmps110
    go_wp2_with fail
    go_ret
    exact HF.out
  · have hq := fun w => Lib.run_eql_slice_nil (P := Tryz.prog) w 47 59 (some ⟨g, 0, none⟩) n cap 0 0 Tryz.underlying47
    have hlen := h.1
    obtain ⟨i0, hi0, hz0, hz1, hz2⟩ := info_parts fle_info
    have HR := Lib.hid hrow; have H1 := Lib.hid h1; have HL := Lib.hid hlen
    have hown : (w.alloc (.cells #[] 59)).ownsRow w.heap.size 59 3 (.slice (some ⟨w.heap.size, 0, none⟩) 0 0) 0 [] := World.ownsRow_made w #[] 0 (Nat.le_refl _) (Nat.zero_le _) rfl
    have HO := Lib.hid hown
    have hm3 := Lib.hid (show 0 + n ≤ maxLen by simp only [maxLen]; omega)
    have hm4 := Lib.hid (show (0 + n) * 24 ≤ 140737488355328 by omega)
    clear h hrow h1 hlen hown hcap hmax hn heq
    go_enter Tryz.func110, Tryz.ntmps110
    go_wp2_with (at_builtin; refine wpList_append_own _ (by rfl) (.tmp 5) (.tmp 6) 47 (by rfl) w.heap.size 59 i0 (.agg #[.int .i64 0, .int .i64 0, .int .i64 0]) 3 24 Tryz.underlying47 hi0 hz0 hz1 hz2 rfl (by decide) _ _ _ rfl HO.out ⟨g, 0, none⟩ n cap xs rfl HL.out ?c1 H1.out hm3.out hm4.out ?c5 ?_)
    case c1 => exact fun j u hu => by rw [Addr.add_lit, Nat.zero_add]; exact (HR.out.alloc _).cell hu
    case c5 => simp
    intro v' w1 hown1 hg1 _
    have HF := Lib.hid (show fle_ClonePost w n xs (.returned v') w1 from by
      refine ⟨v', rfl, ?_, (((Below.refl _ w).alloc (Nat.le_refl _) _)).grown hg1 (by simp) (fun k hk => by simp [Value.ownBlock] at hk; omega)⟩
      exact Tide.OwnRow.of_owns hown1 (Tide.own_ge hown1))
    clear hown1 hg1
    go_wp2_with fail
    go_ret
    exact HF.out
/- slices.IndexFunc at []api.Pod, the function (*fleet.Fleet).find$1 -/
set_option maxRecDepth 100000 in
set_option maxHeartbeats 4000000 in
theorem fleF_index (B : Nat) (p : Tide.Pod → Bool) (l : List Tide.Pod) (v : Value) (w : World) (hv : Tide.ListIn w 3 Tide.Pod.enc v l) (hlen : l.length ≤ 100000000)
    (hp : ∀ (m : Tide.Pod) (W : World), Below w.heap.size w W → Calls Tryz.prog 170 #[.agg #[.int .i64 m.id, .int .i64 m.state, .int .i64 m.load], .pointer (some ⟨B, 0, none⟩)] W fun e W' => e = .returned (.bool (p m)) ∧ Below W.heap.size W W') :
    Calls Tryz.prog 157 #[v, .func (.func 170) #[] #[.pointer (some ⟨B, 0, none⟩)]] w fun e w' => e = .returned (.int .i64 (Tide.idxOf (Tide.firstAt p l))) ∧ Below w.heap.size w w' := by
  obtain ⟨A, cap, rfl, hA⟩ := hv
  have HA := Lib.hid hA; have HP := Lib.hid hp
  clear hA hp
  go_enter Tryz.func157, Tryz.ntmps157
  go_wp2_with fail
  go_loopw [8] (fun i wr => ∃ k : Nat, k ≤ l.length ∧ i = .int .i64 k ∧ Hid (∀ (t : Nat) (b : Tide.Pod), t < k → l[t]? = some b → p b = false) ∧ Below w.heap.size w wr) (fun i _ => l.length - (intOf i).toNat)
  case atStart => exact ⟨0, by omega, rfl, fun t b ht => by omega, Below.refl _ _⟩
  case round =>
    obtain ⟨k, hk, rfl, hno, hb⟩ := hrel
    by_cases hlt : k < l.length
    · obtain ⟨m, hm⟩ := Tide.get_some l hlt
      obtain ⟨b, off, rfl, hbl, hc⟩ := HA.out (by omega)
      have cl : ∀ (j : Nat) (u : Value), m.enc[j]? = some u → wr.cell? ⟨b, off + k * 3 + j, none⟩ = some u := fun j u hu => (hb.cell (p := ⟨b, off + k * 3 + j, none⟩) hbl).trans (hc k m j u hm hu)
      have c0 : wr.cell? ⟨b, off + k * 3, none⟩ = _ := cl 0 _ rfl
      have c1 := cl 1 _ rfl; have c2 := cl 2 _ rfl
      have i0 : (0 : Int) ≤ (k : Int) := by omega
      have i1 : (k : Int) < (l.length : Int) := by omega
      have HM := Lib.hid hm
      clear hc cl hm
      go_wp2_with fail
      refine (HP.out m _ hb).mono ?_
      rintro e w1 ⟨rfl, hb1⟩
      have HB := Lib.hid (hb.trans (hb1.mono hb.size))
      cases hpm : p m
      · have HN := Lib.hid (show ∀ (t : Nat) (b : Tide.Pod), t < k + 1 → l[t]? = some b → p b = false from fun t b ht hb => by
          rcases Nat.lt_succ_iff_lt_or_eq.mp ht with h | h
          · exact hno.out t b h hb
          · subst h; rw [HM.out] at hb; cases hb; exact hpm)
        clear hb hb1 hno hpm
        go_wp2_with fail
        go_roundw
        case rel => exact ⟨k + 1, by omega, by go_num, HN, HB.out⟩
        case measure => simp [intOf]; omega
      · have HN := Lib.hid (Tide.firstAt_some hno.out HM.out hpm)
        clear hb hb1 hno hpm
        go_wp2_with fail
        go_ret
        exact ⟨by rw [HN.out]; rfl, HB.out⟩
    · have hke : k = l.length := by omega
      have HN := Lib.hid (Tide.firstAt_none (p := p) (l := l) (fun t b hb => hno.out t b (by rw [hke]; exact Tide.get_lt hb) hb))
      have HB := Lib.hid hb
      clear hb hno hke
      go_wp2_with fail
      go_ret
      exact ⟨by rw [HN.out]; rfl, HB.out⟩
theorem fle_one {l : List Tide.Pod} : ∀ u ∈ l.flatMap Tide.Pod.enc, u.oneCell' = true := by
  intro u hu
  obtain ⟨p, _, hp⟩ := List.mem_flatMap.1 hu
  simp [Tide.Pod.enc] at hp
  rcases hp with h | h | h <;> subst h <;> rfl
section
variable {T : TypeId} {S : Nat → Prop} {w w3 : World} {g b cap n : Nat} {l : List Tide.Pod} {last most : Int}
theorem FAt.cut (h : FAt T S w g (.slice (some ⟨b, 0, none⟩) l.length cap) l last most) {i : Nat} (hi : i < l.length) (hgb : g ≠ b)
    (h3 : Tide.OwnRow S w3 59 3 (.slice (some ⟨b, 0, none⟩) (l.length - 1) cap) (l.length - 1) ((l.flatMap Tide.Pod.enc).take (i * 3) ++ (l.flatMap Tide.Pod.enc).drop ((i + 1) * 3))) (hc : Tide.Chg (fun x => x = b) w w3) :
    w3.cell? ⟨g, 0, none⟩ = some (.slice (some ⟨b, 0, none⟩) l.length cap) ∧ w3.frozen? ⟨g, 0, none⟩ = false ∧
    FAt T S (w3.setCell ⟨g, 0, none⟩ (.slice (some ⟨b, 0, none⟩) (l.length - 1) cap)) g (.slice (some ⟨b, 0, none⟩) (l.length - 1) cap) (l.eraseIdx i) last most ∧ Tide.Chg S w (w3.setCell ⟨g, 0, none⟩ (.slice (some ⟨b, 0, none⟩) (l.length - 1) cap)) := by
  obtain ⟨b', cap', e, hS, _⟩ := h.row.form (by omega)
  cases e
  have hd := h.head.chg hc hgb
  have e1 : (l.eraseIdx i).length = l.length - 1 := by rw [List.length_eraseIdx]; simp [hi]
  refine ⟨hd.here rfl, hd.soft 0, ⟨hd.put 0 _, ?_, h.own, by rw [e1]; have := h.small; omega, fun c hc' => by rw [Tide.size_put]; exact Nat.lt_of_lt_of_le (h.lim c hc') hc.size⟩, (hc.mono (fun k _ e => by rw [e]; exact hS)).put (.inl h.own) _⟩
  rw [e1, Tide.flat_erase Tide.Pod.enc_length]
  exact h3.aside (p := ⟨g, 0, none⟩) (fun c hc' => by simp [Value.ownBlock] at hc'; show c ≠ g; omega) _
/-- one cell of a pod is stored -/
theorem FAt.put (h : FAt T S w g (.slice (some ⟨b, 0, none⟩) n cap) l last most) (hT : T ≠ 59) {k j : Nat} {r r' : Tide.Pod} {u : Value} (hk : l[k]? = some r) (hj : j < 3) (hu : r.enc.set j u = r'.enc) :
    FAt T S (w.setCell ⟨b, k * 3 + j, none⟩ u) g (.slice (some ⟨b, 0, none⟩) n cap) (l.set k r') last most ∧ Tide.Chg S w (w.setCell ⟨b, k * 3 + j, none⟩ u) := by
  have hkl := Tide.get_lt hk
  obtain ⟨b', cap', e, hS, _⟩ := h.row.form (by omega)
  cases e
  have hgb : b ≠ g := h.apart hT b rfl
  have p1 := h.row.put (Tide.flat_lt Tide.Pod.enc_length hkl hj) u
  rw [Tide.flat_set Tide.Pod.enc_length hk hj hu] at p1
  refine ⟨⟨h.head.other (p := ⟨b, k * 3 + j, none⟩) (Ne.symm hgb) _, ?_, h.own, by rw [List.length_set]; exact h.small, fun c hc => by rw [Tide.size_put]; exact h.lim c hc⟩, (Tide.Chg.refl S w).put (p := ⟨b, k * 3 + j, none⟩) (.inl hS) _⟩
  rw [List.length_set]; exact p1
end
def FlePost (T : TypeId) (S : Nat → Prop) (w : World) (g : Nat) (l : List Tide.Pod) (last most : Int) (e : Ending) (w' : World) : Prop :=
  (∃ x, e = .returned x) ∧ (∃ v, FAt T S w' g v l last most) ∧ Tide.Chg S w w'
set_option maxRecDepth 100000 in
set_option maxHeartbeats 1600000 in
theorem fleGone (S : Nat → Prop) (g : Nat) (v : Value) (l : List Tide.Pod) (last most : Int) (i : Nat) (w : World) (h : FAt 149 S w g v l last most) (hi : i < l.length) :
    Calls Tryz.prog 148 #[.pointer (some ⟨g, 0, none⟩), .int .i64 i] w (FlePost 149 S w g (l.eraseIdx i) last most) := by
  obtain ⟨p, hp⟩ := Tide.get_some l hi
  obtain ⟨b, cap, rfl, hS, _, _, hbl, _⟩ := h.pod hp
  have hc : w.cell? ⟨g, 0, none⟩ = some (.slice (some ⟨b, 0, none⟩) l.length cap) := h.head.here rfl
  have hgb := h.apart (by decide) b rfl
  have hs := h.small
  have HH := Lib.hid h
  have HG := Lib.hid (Ne.symm hgb)
  have hil : (i : Int) < (l.length : Int) := by omega
  clear h hp hgb
  go_enter Tryz.func148, Tryz.ntmps148
  go_wp2_with fail
  refine (fle_delete S _ b cap _ i _ HH.out.row hi fle_one).mono ?_
  rintro e w3 ⟨rfl, h3, c3⟩
  obtain ⟨q0, q1, q2⟩ := HH.out.cut hi HG.out h3 c3
  have Q := Lib.hid q2
  clear h3 c3 q2 hc
  go_wp2_with fail
  go_end0
  exact ⟨⟨_, rfl⟩, ⟨_, Q.out.1⟩, Q.out.2⟩
set_option maxHeartbeats 400000 in
theorem fleIs (id : Int) (B : Nat) (m : Tide.Pod) (W : World) (h : W.cell? ⟨B, 0, none⟩ = some (.int .i64 id)) : Calls Tryz.prog 170 #[.agg #[.int .i64 m.id, .int .i64 m.state, .int .i64 m.load], .pointer (some ⟨B, 0, none⟩)] W fun e W' => e = .returned (.bool (Tide.podIs id m)) ∧ Below W.heap.size W W' := by
  have hB := World.block_lt_of_cell? W _ h
  simp only at hB
  go_enter Tryz.func170, Tryz.ntmps170
  go_wp2_with fail
  go_ret
  exact ⟨rfl, (Below.refl _ _).alloc (Nat.le_refl _) _⟩
set_option maxRecDepth 100000 in
set_option maxHeartbeats 1600000 in
theorem fleFind (S : Nat → Prop) (g : Nat) (v : Value) (l : List Tide.Pod) (last most id : Int) (w : World) (h : FAt 149 S w g v l last most) :
    Calls Tryz.prog 147 #[.pointer (some ⟨g, 0, none⟩), .int .i64 id] w (FleRead w (.int .i64 (Tide.idxOf (Tide.findP l id)))) := by
  have HX := Lib.hid (Tide.At.made w 3 #[.int .i64 id])
  have HB := Lib.hid ((Below.refl w.heap.size w).alloc (Nat.le_refl _) (.cells #[.int .i64 id] 3))
  have HH := Lib.hid (h.alloc (.cells #[.int .i64 id] 3))
  have hc : w.cell? ⟨g, 0, none⟩ = some v := h.head.here rfl
  have hc2 : (w.alloc (.cells #[.int .i64 id] 3)).cell? ⟨g, 0, none⟩ = some v := HH.out.head.here rfl
  have hgw : g < w.heap.size := h.head.inside
  clear h
  go_enter Tryz.func147, Tryz.ntmps147
  go_wp2_with fail
  refine (fleF_index w.heap.size (Tide.podIs id) l v _ (HH.out.row.list Tide.Pod.enc_length) (by have := HH.out.small; omega) (fun m W hW => fleIs id _ m W ((hW.cell (p := ⟨w.heap.size, 0, none⟩) HX.out.inside).trans (HX.out.here (i := 0) rfl)))).mono ?_
  rintro e w2 ⟨rfl, hb2⟩
  have HB2 := Lib.hid (HB.out.trans (hb2.mono HB.out.size))
  clear hb2 hc hc2
  go_wp2_with fail
  go_ret
  exact ⟨rfl, HB2.out⟩
def FleAllPost (w : World) (l : List Tide.Pod) (e : Ending) (w' : World) : Prop := ∃ v', e = .returned v' ∧ Tide.OwnRow (fun b => w.heap.size ≤ b) w' 59 3 v' l.length (l.flatMap Tide.Pod.enc) ∧ Below w.heap.size w w'
set_option maxRecDepth 100000 in
set_option maxHeartbeats 1600000 in
theorem fleAll (S : Nat → Prop) (g : Nat) (v : Value) (l : List Tide.Pod) (last most : Int) (w : World) (h : FAt 149 S w g v l last most) :
    Calls Tryz.prog 65 #[.pointer (some ⟨g, 0, none⟩)] w (FleAllPost w l) := by
  obtain ⟨A, cap, rfl, _, _, _⟩ := h.row.slice
  have hc : w.cell? ⟨g, 0, none⟩ = some (.slice A l.length cap) := h.head.here rfl
  have HH := Lib.hid h
  clear h
  go_enter Tryz.func65, Tryz.ntmps65
  go_wp2_with fail
  refine (fle_clone S _ _ _ _ HH.out.row (by have := HH.out.small; omega) fle_one).mono ?_
  rintro e w2 ⟨v', rfl, h2, hb2⟩
  have HF := Lib.hid (show FleAllPost w l (.returned v') w2 from ⟨v', rfl, h2, hb2⟩)
  clear h2 hb2 hc
  go_wp2_with fail
  go_ret
  exact HF.out
end Go.Proofs.YtlfaogkdghnmcaaGreat


namespace Go.Proofs.YtlfaogkdghnmcaaGreat
open Go.RowKit
set_option linter.unusedVariables false
theorem idx_some (i : Nat) : Tide.idxOf (some i) = (i : Int) := rfl
theorem idx_none : Tide.idxOf none = -1 := rfl
set_option maxRecDepth 100000 in
set_option maxHeartbeats 6400000 in
theorem fleFewer (S : Nat → Prop) (g : Nat) (v : Value) (l : List Tide.Pod) (last most : Int) (w : World) (h : FAt 149 S w g v l last most) (hst : ∀ p ∈ l, 1 ≤ p.state ∧ p.state ≤ 4) (hlv : 0 < Tide.liveN l) :
    Calls Tryz.prog 166 #[.pointer (some ⟨g, 0, none⟩)] w (FlePost 149 S w g (Tide.fewerL l) last most) := by
  have hs := h.small
  have HH := Lib.hid h
  have HV := Lib.hid (Tide.victim hst hlv)
  clear h hst hlv
  go_enter Tryz.func166, Tryz.ntmps166
  go_wp2_with fail
  have HX := Lib.hid (Tide.At.made w 3 #[.int .i64 1, .int .i64 2])
  have HB := Lib.hid ((Below.refl w.heap.size w).alloc (Nat.le_refl _) (.cells #[.int .i64 1, .int .i64 2] 3))
  go_loopw [8] (fun i wr => ∃ k : Nat, k ≤ 2 ∧ i = .int .i64 k ∧ Hid ((1 ≤ k → Tide.best 1 Tide.gtId l = none) ∧ (2 ≤ k → Tide.best 2 Tide.gtId l = none)) ∧ Hid (Tide.At wr w.heap.size 3 #[.int .i64 1, .int .i64 2]) ∧ Hid (Below w.heap.size w wr)) (fun i _ => 2 - (intOf i).toNat)
  case atStart => exact ⟨0, by omega, rfl, Lib.hid ⟨fun h => by omega, fun h => by omega⟩, HX, HB⟩
  case round =>
    clear HX HB
    obtain ⟨k, hk, rfl, HK, HX, HB⟩ := hrel
    have HF := Lib.hid (HH.out.below HB.out)
    rcases (show k = 0 ∨ k = 1 ∨ k = 2 by omega) with rfl | rfl | rfl
    · have x0 := HX.out.here (i := 0) rfl
      go_wp2_with fail
      refine (fleBest_gt S g v l last most 1 _ HF.out).mono ?_
      rintro e w1 ⟨rfl, hb1⟩
      have HB1 := Lib.hid (HB.out.trans (hb1.mono HB.out.size))
      have HX1 := Lib.hid (HX.out.below hb1 HX.out.inside)
      clear hb1 x0
      cases hq : Tide.best 1 Tide.gtId l with
      | some i =>
        rw [idx_some]
        obtain ⟨p, hp, _⟩ := Tide.best_at hq
        have HE := Lib.hid (show Tide.fewerL l = l.eraseIdx i by unfold Tide.fewerL; rw [hq])
        have i0 : (0 : Int) ≤ (i : Int) := by omega
        clear hq
        go_wp2_with fail
        refine (fleGone S g v l last most i _ (HH.out.below HB1.out) (Tide.get_lt hp)).mono ?_
        rintro e w2 ⟨⟨x, rfl⟩, ⟨v2, h2⟩, c2⟩
        have HR := Lib.hid (show FlePost 149 S w g (Tide.fewerL l) last most (.returned (.tuple #[])) w2 from ⟨⟨_, rfl⟩, ⟨_, by rw [HE.out]; exact h2⟩, (Tide.Chg.of_below HB1.out (Nat.le_refl _)).trans c2⟩)
        clear h2 c2 hp
        go_wp2_with fail
        go_end0
        exact HR.out
      | none =>
        rw [idx_none]
        have HQ := Lib.hid hq
        clear hq
        go_wp2_with fail
        go_roundw
        case rel => exact ⟨1, by omega, by go_num, Lib.hid ⟨fun _ => HQ.out, fun h => by omega⟩, HX1, HB1⟩
        case measure => simp [intOf]
    · have x1 := HX.out.here (i := 1) rfl
      go_wp2_with fail
      refine (fleBest_gt S g v l last most 2 _ HF.out).mono ?_
      rintro e w1 ⟨rfl, hb1⟩
      have HB1 := Lib.hid (HB.out.trans (hb1.mono HB.out.size))
      have HX1 := Lib.hid (HX.out.below hb1 HX.out.inside)
      clear hb1 x1
      cases hq : Tide.best 2 Tide.gtId l with
      | some i =>
        rw [idx_some]
        obtain ⟨p, hp, _⟩ := Tide.best_at hq
        have HE := Lib.hid (show Tide.fewerL l = l.eraseIdx i by unfold Tide.fewerL; rw [HK.out.1 (by decide), hq])
        have i0 : (0 : Int) ≤ (i : Int) := by omega
        clear hq
        go_wp2_with fail
        refine (fleGone S g v l last most i _ (HH.out.below HB1.out) (Tide.get_lt hp)).mono ?_
        rintro e w2 ⟨⟨x, rfl⟩, ⟨v2, h2⟩, c2⟩
        have HR := Lib.hid (show FlePost 149 S w g (Tide.fewerL l) last most (.returned (.tuple #[])) w2 from ⟨⟨_, rfl⟩, ⟨_, by rw [HE.out]; exact h2⟩, (Tide.Chg.of_below HB1.out (Nat.le_refl _)).trans c2⟩)
        clear h2 c2 hp
        go_wp2_with fail
        go_end0
        exact HR.out
      | none =>
        rw [idx_none]
        have HQ := Lib.hid hq
        clear hq
        go_wp2_with fail
        go_roundw
        case rel => exact ⟨2, by omega, by go_num, Lib.hid ⟨fun _ => HK.out.1 (by decide), fun _ => HQ.out⟩, HX1, HB1⟩
        case measure => simp [intOf]
    · obtain ⟨i, hi⟩ := HV.out (HK.out.1 (by decide)) (HK.out.2 (by decide))
      have HI := Lib.hid hi
      clear hi
      go_wp2_with fail
      refine (fleBest_both S g v l last most 3 _ HF.out).mono ?_
      rintro e w1 ⟨rfl, hb1⟩
      have HB1 := Lib.hid (HB.out.trans (hb1.mono HB.out.size))
      clear hb1
      rw [HI.out, idx_some]
      obtain ⟨p, hp, hst⟩ := Tide.best_at HI.out
      obtain ⟨b, cap, rfl, hS, _, _, hbl, c0, c1, c2, fz⟩ := (HH.out.below HB1.out).pod hp
      have hc : w1.cell? ⟨g, 0, none⟩ = some (.slice (some ⟨b, 0, none⟩) l.length cap) := (HH.out.below HB1.out).head.here rfl
      have hla : Tide.loadAt l i = p.load := by unfold Tide.loadAt; rw [hp]; rfl
      have hil := Tide.get_lt hp
      have i0 : (0 : Int) ≤ (i : Int) := by omega
      have i1 : (i : Int) < (l.length : Int) := by omega
      have f1 := fz (i * 3 + 1)
      have HP := Lib.hid hp
      have HK1 := Lib.hid (HK.out.1 (by decide)); have HK2 := Lib.hid (HK.out.2 (by decide))
      clear hp hst c0 fz HK
      by_cases hz : p.load = 0
      · have HE := Lib.hid (show Tide.fewerL l = l.eraseIdx i by unfold Tide.fewerL; rw [HK1.out, HK2.out, HI.out]; simp only [hla, hz]; rfl)
        rw [hz] at c2
        clear hla hz
        go_wp2_with fail
        refine (fleGone S g _ l last most i _ (HH.out.below HB1.out) hil).mono ?_
        rintro e w2 ⟨⟨x, rfl⟩, ⟨v2, h2⟩, ch2⟩
        have HR := Lib.hid (show FlePost 149 S w g (Tide.fewerL l) last most (.returned (.tuple #[])) w2 from ⟨⟨_, rfl⟩, ⟨_, by rw [HE.out]; exact h2⟩, (Tide.Chg.of_below HB1.out (Nat.le_refl _)).trans ch2⟩)
        clear h2 ch2
        go_wp2_with fail
        go_end0
        exact HR.out
      · have HE := Lib.hid (show Tide.fewerL l = l.set i { p with state := 4 } by unfold Tide.fewerL; rw [HK1.out, HK2.out, HI.out]; simp only [hla, hz]; unfold Tide.drainAt; rw [HP.out]; rfl)
        have hz2 : (p.load == 0) = false := by simp only [beq_eq_false_iff_ne]; exact hz
        have p1 := (HH.out.below HB1.out).put (by decide) (k := i) (j := 1) (r' := { p with state := 4 }) (u := .int .i64 4) HP.out (by decide) rfl
        have HR := Lib.hid (show FlePost 149 S w g (Tide.fewerL l) last most (.returned (.tuple #[])) _ from ⟨⟨_, rfl⟩, ⟨_, by rw [HE.out]; exact p1.1⟩, (Tide.Chg.of_below HB1.out (Nat.le_refl _)).trans p1.2⟩)
        clear hla hz p1
        go_wp2_with fail
        go_end0
        exact HR.out
end Go.Proofs.YtlfaogkdghnmcaaGreat


namespace Go.Proofs.YtlfaogkdghnmcaaGreat
open Go.RowKit
set_option linter.unusedVariables false
theorem fle_alloc_size (w : World) (o : Obj) : (w.alloc o).drew.heap.size = w.drew.heap.size + 1 := by
  show (w.alloc o).heap.size = w.heap.size + 1
  simp
section
variable {T : TypeId} {S : Nat → Prop} {w w1 : World} {g b cap : Nat} {l : List Tide.Pod} {v : Value} {last most : Int}
theorem FAt.tick (h : FAt T S w g v l last most) (hT : T ≠ 59) (x : Int) : FAt T S (w.setCell ⟨g, 1, none⟩ (.int .i64 x)) g v l x most ∧ Tide.Chg S w (w.setCell ⟨g, 1, none⟩ (.int .i64 x)) :=
  ⟨⟨h.head.put 1 _, h.row.aside (p := ⟨g, 1, none⟩) (h.apart hT) _, h.own, h.small, fun c hc => by rw [Tide.size_put]; exact h.lim c hc⟩, (Tide.Chg.refl S w).put (p := ⟨g, 1, none⟩) (.inl h.own) _⟩
/-- a pod is appended -/
theorem FAt.app {r : Tide.Pod} {o : Obj} (h : FAt T S w g v l last most) (hT : T ≠ 59) (hl : l.length < 10000000)
    (h1 : w1.ownsRow 0 59 3 (.slice (some ⟨b, 0, none⟩) (l.length + 1) cap) (l.length + 1) (l.flatMap Tide.Pod.enc ++ r.enc)) (hg : (w.alloc o).grownBy w1 v.ownBlock) (ho : v.ownBlock = some b ∨ b = w.heap.size + 1) (hlt : b < w1.heap.size) :
    (w1.cell? ⟨g, 0, none⟩ = some v ∧ w1.frozen? ⟨g, 0, none⟩ = false) ∧
    FAt T (Tide.Plus S w (w1.setCell ⟨g, 0, none⟩ (.slice (some ⟨b, 0, none⟩) (l.length + 1) cap))) (w1.setCell ⟨g, 0, none⟩ (.slice (some ⟨b, 0, none⟩) (l.length + 1) cap)) g (.slice (some ⟨b, 0, none⟩) (l.length + 1) cap) (l ++ [r]) last most ∧
    Tide.Chg S w (w1.setCell ⟨g, 0, none⟩ (.slice (some ⟨b, 0, none⟩) (l.length + 1) cap)) := by
  have z : (w.alloc o).heap.size = w.heap.size + 1 := by simp
  obtain ⟨r1, r2⟩ := (h.row.alloc o).app h1 hg (ho.imp id (fun e => by rw [e, z])) hlt
  have hA := (h.head.alloc o).grown hg (fun e => h.row.apartAt h.head (Ne.symm hT) g e rfl)
  have z2 := r2.size
  have e1 : (l ++ [r]).length = l.length + 1 := by simp
  have e2 : (l ++ [r]).flatMap Tide.Pod.enc = l.flatMap Tide.Pod.enc ++ r.enc := by simp
  refine ⟨⟨hA.here rfl, hA.soft 0⟩, ⟨hA.put 0 _, ?_, .inl h.own, by rw [e1]; omega, fun c hb => ?_⟩, ((Tide.Chg.refl S w).alloc o).trans (r2.put (.inl h.own) _)⟩
  · rw [e1, e2]
    refine (r1.mono fun c hc hb => ?_).aside (p := ⟨g, 0, none⟩) (r1.apartAt hA (Ne.symm hT)) _
    rcases hb with hb | hb
    · exact .inl hb
    · exact .inr ⟨by omega, by rw [Tide.size_put]; exact hc⟩
  · rcases hb with hb | hb
    · have := h.lim c hb
      rw [Tide.size_put]; omega
    · exact hb.2
/-- two steps, each with new blocks of its own -/
theorem FAt.plus {w0 w2 : World} {v' : Value} {l' : List Tide.Pod} {last' : Int} (hc : Tide.Chg S w0 w) (h : FAt T (Tide.Plus (Tide.Plus S w0 w) w w2) w2 g v' l' last' most) (hc2 : Tide.Chg (Tide.Plus S w0 w) w w2) : FAt T (Tide.Plus S w0 w2) w2 g v' l' last' most ∧ Tide.Chg S w0 w2 := by
  have z1 := hc.size
  have z2 := hc2.size
  refine ⟨h.mono (fun c hlt hb => ?_) (fun c hb => ?_), hc.plus hc2⟩
  · rcases hb with hb | hb
    · exact hb.up (by omega)
    · exact .inr ⟨by omega, hlt⟩
  · rcases hb with hb | hb
    · exact h.lim c (.inl (.inl hb))
    · exact hb.2
end
theorem FAt.wide {T : TypeId} {S : Nat → Prop} {w0 w w' : World} {g : Nat} {v : Value} {l : List Tide.Pod} {last most : Int} (h : FAt T (Tide.Plus S w0 w) w' g v l last most) (hz : w.heap.size ≤ w'.heap.size) (hz0 : w0.heap.size ≤ w'.heap.size) : FAt T (Tide.Plus S w0 w') w' g v l last most :=
  h.mono (fun c _ hb => hb.up hz) (fun c hb => by
    rcases hb with hb | hb
    · exact h.lim c (.inl hb)
    · exact hb.2)
def ScalePost (T : TypeId) (S : Nat → Prop) (w : World) (g : Nat) (l : List Tide.Pod) (last most n : Int) (e : Ending) (w' : World) : Prop :=
  e = .returned (.int .i64 (Tide.scaleErr n)) ∧ (∃ v, FAt T (Tide.Plus S w w') w' g v (Tide.scaleLst l last n) (Tide.scaleLast l last n) most) ∧ Tide.Chg S w w'
theorem scale_no {T : TypeId} {S : Nat → Prop} {w : World} {g : Nat} {v : Value} {l : List Tide.Pod} {last most n : Int} (h : FAt T S w g v l last most) (hn : n < 0 ∨ 50 < n) : ScalePost T S w g l last most n (.returned (.int .i64 1)) w := by
  refine ⟨by unfold Tide.scaleErr; rw [if_pos hn], ⟨v, ?_⟩, Tide.Chg.refl _ _⟩
  unfold Tide.scaleLst Tide.scaleLast Tide.scaleUp Tide.scaleDown
  rw [if_pos hn, if_pos hn]
  simpa [Tide.newPods, Tide.thinN] using h.up
set_option maxRecDepth 100000 in
set_option maxHeartbeats 12800000 in
theorem fleScale (S : Nat → Prop) (g : Nat) (v : Value) (l : List Tide.Pod) (last most n : Int) (w : World) (h : FAt 149 S w g v l last most) (hcr : Tide.Crewed l last most) (hm : 0 ≤ most) (hsm : l.length ≤ 9000000) (hla : last ≤ 1000000000000) :
    Calls Tryz.prog 142 #[.pointer (some ⟨g, 0, none⟩), .int .i64 n] w (ScalePost 149 S w g l last most n) := by
  have HH := Lib.hid h
  clear h
  by_cases h1 : n < 0
  · have HF := Lib.hid (scale_no HH.out (.inl h1))
    go_enter Tryz.func142, Tryz.ntmps142
    go_wp2_with fail
    go_ret
    exact HF.out
  by_cases h2 : 50 < n
  · have HF := Lib.hid (scale_no HH.out (.inr h2))
    have h1' : 0 ≤ n := by omega
    clear h1
    go_enter Tryz.func142, Tryz.ntmps142
    go_wp2_with fail
    go_ret
    exact HF.out
  have h1' : 0 ≤ n := by omega
  have h2' : n ≤ 50 := by omega
  have hnn := Tide.liveN_nn l
  have HU := Lib.hid (show Tide.scaleUp l n = (n - Tide.liveN l).toNat by unfold Tide.scaleUp; rw [if_neg (by omega)])
  have HD := Lib.hid (show Tide.scaleDown l n = (Tide.liveN l - n).toNat by unfold Tide.scaleDown; rw [if_neg (by omega)])
  have HE := Lib.hid (show Tide.scaleErr n = 0 by unfold Tide.scaleErr; rw [if_neg (by omega)])
  have HCr := Lib.hid hcr
  have hl0 := hcr.last0
  obtain ⟨i0, hi, hz0, hz1, hz2⟩ := info_parts fle_info
  have hUle := Lib.hid (show Tide.scaleUp l n ≤ 50 by rw [HU.out]; omega)
  clear h1 h2 hcr
  go_enter Tryz.func142, Tryz.ntmps142
  go_wp2_with fail
  go_loopg [] (Tide.scaleUp l n) (fun k wr => ∃ (m : Nat) (vk : Value), m ≤ Tide.scaleUp l n ∧ k = Tide.scaleUp l n - m ∧ Hid (FAt 149 (Tide.Plus S w wr) wr g vk (l ++ Tide.newPods last m) (last + m) most ∧ Tide.Chg S w wr))
  case atStart => exact ⟨0, _, by omega, by omega, Lib.hid ⟨by simpa [Tide.newPods] using HH.out.up, Tide.Chg.refl _ _⟩⟩
  case round =>
    obtain ⟨m, vk, hmk, hke, HF⟩ := hrel
    have HKe := Lib.hid hke; have HMk := Lib.hid hmk
    have HLv := Lib.hid (Tide.live_more l last m)
    have hL : (l ++ Tide.newPods last m).length < 10000000 := by simp [Tide.newPods_length]; have := hUle.out; omega
    have HLL := Lib.hid hL
    have HSucc := Lib.hid (show l ++ Tide.newPods last (m + 1) = (l ++ Tide.newPods last m) ++ [⟨last + 1 + m, 1, 0⟩] by rw [Tide.newPods_succ, List.append_assoc])
    have HAll := Lib.hid (show Tide.scaleLst l last n = Tide.thinN (Tide.scaleDown l n) (l ++ Tide.newPods last (Tide.scaleUp l n)) from rfl)
    have HLast := Lib.hid (show Tide.scaleLast l last n = last + (Tide.scaleUp l n : Nat) from rfl)
    have HCm := Lib.hid (HCr.out.more hm m)
    clear hke hmk hL
    by_cases hlt : m < Tide.scaleUp l n
    · have hcmp : Tide.liveN (l ++ Tide.newPods last m) < n := by have e := HLv.out; have e2 := HU.out; omega
      have HM := Lib.hid hlt
      have hmm : (m : Int) ≤ 50 := by have := hUle.out; omega
      clear hlt HAll HLast
      go_wp2_with fail
      refine (fleCount _ g vk _ _ most _ HF.out.1).mono ?_
      rintro e w1 ⟨rfl, hb1⟩
      have HC1 := Lib.hid (HF.out.2.step_below hb1 HF.out.2.size)
      have h1F := (HF.out.1.below hb1).wide hb1.size HC1.out.size
      have hd := h1F.head.here (i := 1) rfl
      have fd := h1F.head.soft 1
      have t1 := h1F.tick (by decide) (last + m + 1)
      have HT := Lib.hid (show FAt 149 (Tide.Plus S w (w1.setCell ⟨g, 1, none⟩ (.int .i64 (last + m + 1)))) (w1.setCell ⟨g, 1, none⟩ (.int .i64 (last + m + 1))) g vk (l ++ Tide.newPods last m) (last + m + 1) most ∧ Tide.Chg S w (w1.setCell ⟨g, 1, none⟩ (.int .i64 (last + m + 1))) from ⟨t1.1.wide t1.2.size (by have := t1.2.size; have := HC1.out.size; omega), HC1.out.plus t1.2⟩)
      clear hb1 h1F t1 HF HC1
      generalize Tide.liveN (l ++ Tide.newPods last m) = cN at hcmp HLv ⊢
      generalize l ++ Tide.newPods last m = L at HT HSucc HLL HCm ⊢
      go_upto_region 5 with fail
      clear hd fd hcmp
      obtain ⟨W, hW⟩ : ∃ W, Hid (w1.setCell ⟨g, 1, none⟩ (.int .i64 (last + m + 1)) = W) := ⟨_, Lib.hid rfl⟩
      rw [hW.out] at HT ⊢
      have hc : W.cell? ⟨g, 0, none⟩ = some vk := HT.out.1.head.here rfl
      have hd : W.cell? ⟨g, 1, none⟩ = some (.int .i64 (last + m + 1)) := HT.out.1.head.here rfl
      have f0 := HT.out.1.head.soft 0
      have hgw : g < W.heap.size := HT.out.1.head.inside
      have hm3 : Hid (L.length + 1 ≤ maxLen) := Lib.hid (by have := HLL.out; simp only [maxLen]; omega)
      have hm4 : Hid ((L.length + 1) * 24 ≤ 140737488355328) := Lib.hid (by have := HLL.out; omega)
      clear hW
      go_wp2_with fail
      go_region_law (refine step_append_lies _ (by rfl) (.tmp 26) (.tmp 32) 47 (by rfl) 0 59 i0 (.agg #[.int .i64 0, .int .i64 0, .int .i64 0]) 3 24 Tryz.underlying47 hi hz0 hz1 hz2 rfl (by decide) vk _ _ rfl (HT.out.1.alloc _).drew.row.owns ⟨W.heap.size, 0, none⟩ 1 1 [.int .i64 (last + m + 1), .int .i64 1, .int .i64 0] rfl rfl (Tide.new_cells_at rfl) (by simp [Value.oneCell']) (by decide) hm3.out hm4.out (Nat.zero_le _) _ rfl ?_; intro b cap w3 hown hg ho hlt; obtain ⟨⟨d9, f9⟩, hA, hC⟩ := HT.out.1.drew.app (r := ⟨last + m + 1, 1, 0⟩) (by decide) HLL.out hown hg (ho.imp id (fun e => e.trans (fle_alloc_size _ _))) hlt)
      all_goals
        have HN := Lib.hid (FAt.plus (w := W.drew) HT.out.2.drew hA hC)
        clear hown hg ho hlt hA hC hc hd f0 d9 f9 hgw
        go_wp2_with fail
        go_roundg (Tide.scaleUp l n - (m + 1))
        case measure => have := HM.out; have := HKe.out; omega
        case rel => exact ⟨m + 1, _, by have := HM.out; omega, rfl, Lib.hid ⟨by rw [HSucc.out, show last + 1 + (m : Int) = last + m + 1 by omega, show last + ((m + 1 : Nat) : Int) = last + m + 1 by omega]; exact HN.out.1, HN.out.2⟩⟩
    · have hme : m = Tide.scaleUp l n := by have := HMk.out; omega
      subst hme
      have hcmp : n ≤ Tide.liveN (l ++ Tide.newPods last (Tide.scaleUp l n)) := by have e := HLv.out; have e2 := HU.out; omega
      have HLv2 := Lib.hid (show Tide.liveN (l ++ Tide.newPods last (Tide.scaleUp l n)) - n = (Tide.scaleDown l n : Int) by have e := HLv.out; have e2 := HU.out; have e3 := HD.out; omega)
      clear hlt HSucc
      rw [← HLast.out] at HF HCm
      generalize l ++ Tide.newPods last (Tide.scaleUp l n) = L at HF HAll HLv2 HCm hcmp HLL HLv ⊢
      go_wp2_with fail
      refine (fleCount _ g vk _ _ most _ HF.out.1).mono ?_
      rintro e w1 ⟨rfl, hb1⟩
      have HC1 := Lib.hid (HF.out.2.step_below hb1 HF.out.2.size)
      have H1 := Lib.hid (show FAt 149 (Tide.Plus S w w1) w1 g vk L (Tide.scaleLast l last n) most ∧ Tide.Chg S w w1 from ⟨(HF.out.1.below hb1).wide hb1.size HC1.out.size, HC1.out⟩)
      clear hb1 HF HC1
      go_wp2_with fail
      go_loopg [] (Tide.scaleDown l n) (fun k wr => ∃ (j : Nat) (vj : Value), j ≤ Tide.scaleDown l n ∧ k = Tide.scaleDown l n - j ∧ Hid (FAt 149 (Tide.Plus S w wr) wr g vj (Tide.thinN j L) (Tide.scaleLast l last n) most ∧ Tide.Chg S w wr))
      case atStart => exact ⟨0, _, by omega, by omega, H1⟩
      case round =>
        clear H1
        obtain ⟨j, vj, hjk, hke, HF⟩ := hrel
        have hfn := Lib.hid (HCm.out.thinN j (by have := HLv2.out; omega))
        have HKe := Lib.hid hke; have HJk := Lib.hid hjk
        have HS := Lib.hid (Tide.thinN_succ j L)
        clear hke hjk
        go_wp2_with fail
        refine (fleCount _ g vj _ _ most _ HF.out.1).mono ?_
        rintro e w2 ⟨rfl, hb2⟩
        have HC2 := Lib.hid (HF.out.2.step_below hb2 HF.out.2.size)
        have H2 := Lib.hid (show FAt 149 (Tide.Plus S w w2) w2 g vj (Tide.thinN j L) (Tide.scaleLast l last n) most ∧ Tide.Chg S w w2 from ⟨(HF.out.1.below hb2).wide hb2.size HC2.out.size, HC2.out⟩)
        clear hb2 HF HC2
        by_cases hlt : j < Tide.scaleDown l n
        · have hcm2 : n < Tide.liveN (Tide.thinN j L) := by have := hfn.out.2.1; have := HLv2.out; omega
          have HJ := Lib.hid hlt
          have HP := Lib.hid (show 0 < Tide.liveN (Tide.thinN j L) by omega)
          clear hlt hcmp
          generalize Tide.liveN (Tide.thinN j L) = cN at hcm2 ⊢
          go_wp2_with fail
          refine (fleFewer _ g vj _ _ most _ H2.out.1 hfn.out.1.states HP.out).mono ?_
          rintro e w3 ⟨⟨x, rfl⟩, ⟨v3, h3⟩, c3⟩
          have HN := Lib.hid (show FAt 149 (Tide.Plus S w w3) w3 g v3 (Tide.thinN (j + 1) L) (Tide.scaleLast l last n) most ∧ Tide.Chg S w w3 from ⟨by rw [HS.out]; exact h3.wide c3.size (Nat.le_trans H2.out.2.size c3.size), H2.out.2.plus c3⟩)
          clear h3 c3
          go_wp2_with fail
          go_roundg (Tide.scaleDown l n - (j + 1))
          case measure => have := HJ.out; have := HKe.out; omega
          case rel => exact ⟨j + 1, _, by have := HJ.out; omega, rfl, HN⟩
        · have hje : j = Tide.scaleDown l n := by have := HJk.out; omega
          subst hje
          have hcm2 : Tide.liveN (Tide.thinN (Tide.scaleDown l n) L) ≤ n := by have := hfn.out.2.1; have := HLv2.out; omega
          have HR := Lib.hid (show ScalePost 149 S w g l last most n (.returned (.int .i64 0)) w2 from ⟨by rw [HE.out], ⟨_, by rw [HAll.out]; exact H2.out.1⟩, H2.out.2⟩)
          clear hlt hcmp
          generalize Tide.liveN (Tide.thinN (Tide.scaleDown l n) L) = cN at hcm2 ⊢
          go_wp2_with fail
          go_ret
          exact HR.out
end Go.Proofs.YtlfaogkdghnmcaaGreat


namespace Go.Proofs.YtlfaogkdghnmcaaGreat
open Go.RowKit
set_option linter.unusedVariables false
def FleOut (T : TypeId) (S : Nat → Prop) (w : World) (g : Nat) (x : Value) (l : List Tide.Pod) (last most : Int) (e : Ending) (w' : World) : Prop :=
  e = .returned x ∧ (∃ v, FAt T S w' g v l last most) ∧ Tide.Chg S w w'
theorem fle_out {T : TypeId} {S : Nat → Prop} {w w' w1 : World} {g : Nat} {x x' v : Value} {l l' : List Tide.Pod} {last most : Int} (hb : Below w.heap.size w w1) (h : FAt T S w' g v l' last most) (hc : Tide.Chg S w1 w') (e : x' = x) (el : l' = l) : FleOut T S w g x l last most (.returned x') w' :=
  ⟨by rw [e], ⟨v, el ▸ h⟩, (Tide.Chg.of_below hb (Nat.le_refl _)).trans hc⟩
theorem findP_lt {l : List Tide.Pod} {id : Int} {i : Nat} (h : Tide.findP l id = some i) : i < l.length := by obtain ⟨p, hp, _⟩ := Tide.findP_some h; exact Tide.get_lt hp
set_option maxRecDepth 100000 in
set_option maxHeartbeats 3200000 in
theorem fleTurn (S : Nat → Prop) (g : Nat) (v : Value) (l : List Tide.Pod) (last most id src dst : Int) (w : World) (h : FAt 149 S w g v l last most) :
    Calls Tryz.prog 104 #[.pointer (some ⟨g, 0, none⟩), .int .i64 id, .int .i64 src, .int .i64 dst] w (FleOut 149 S w g (.int .i64 (Tide.turnErr l id src)) (Tide.turnLst l id src dst) last most) := by
  have hs := h.small
  have HH := Lib.hid h
  clear h
  go_enter Tryz.func104, Tryz.ntmps104
  go_wp2_with fail
  refine (fleFind S g v l last most id _ HH.out).mono ?_
  rintro e w1 ⟨rfl, hb1⟩
  have HB := Lib.hid hb1
  clear hb1
  cases hf : Tide.findP l id with
  | none =>
    rw [idx_none]
    have HR := Lib.hid (show FleOut 149 S w g (.int .i64 (Tide.turnErr l id src)) (Tide.turnLst l id src dst) last most (.returned (.int .i64 4)) w1 from fle_out HB.out (HH.out.below HB.out) (Tide.Chg.refl _ _) (by unfold Tide.turnErr; rw [hf]) (by unfold Tide.turnLst; rw [hf]))
    clear hf
    go_wp2_with fail
    go_ret
    exact HR.out
  | some i =>
    rw [idx_some]
    obtain ⟨p, hp, _⟩ := Tide.findP_some hf
    obtain ⟨b, cap, rfl, hS, _, _, hbl, c0, c1, c2, fz⟩ := (HH.out.below HB.out).pod hp
    have hc : w1.cell? ⟨g, 0, none⟩ = some (.slice (some ⟨b, 0, none⟩) l.length cap) := (HH.out.below HB.out).head.here rfl
    have hil := Tide.get_lt hp
    have i0 : (0 : Int) ≤ (i : Int) := by omega
    have i1 : (i : Int) < (l.length : Int) := by omega
    have f1 := fz (i * 3 + 1)
    by_cases q : p.state = src
    · have p1 := (HH.out.below HB.out).put (by decide) (k := i) (j := 1) (r' := { p with state := dst }) (u := .int .i64 dst) hp (by decide) rfl
      have HR := Lib.hid (show FleOut 149 S w g (.int .i64 (Tide.turnErr l id src)) (Tide.turnLst l id src dst) last most (.returned (.int .i64 0)) _ from fle_out HB.out p1.1 p1.2 (by unfold Tide.turnErr; rw [hf]; simp only [hp]; rw [if_pos q]) (by unfold Tide.turnLst; rw [hf]; simp only [hp]; rw [if_pos q]))
      have q2 : (p.state != src) = false := by simp [q]
      clear hf hp p1 c0 c2 fz q
      go_wp2_with fail
      go_ret
      exact HR.out
    · have HR := Lib.hid (show FleOut 149 S w g (.int .i64 (Tide.turnErr l id src)) (Tide.turnLst l id src dst) last most (.returned (.int .i64 7)) w1 from fle_out HB.out (HH.out.below HB.out) (Tide.Chg.refl _ _) (by unfold Tide.turnErr; rw [hf]; simp only [hp]; rw [if_neg q]) (by unfold Tide.turnLst; rw [hf]; simp only [hp]; rw [if_neg q]))
      have q2 : (p.state != src) = true := by simp [q]
      clear hf hp c0 c2 fz q f1
      go_wp2_with fail
      go_ret
      exact HR.out
set_option maxHeartbeats 800000 in
theorem fleStart (S : Nat → Prop) (g : Nat) (v : Value) (l : List Tide.Pod) (last most id : Int) (w : World) (h : FAt 149 S w g v l last most) :
    Calls Tryz.prog 59 #[.pointer (some ⟨g, 0, none⟩), .int .i64 id] w (FleOut 149 S w g (.int .i64 (Tide.turnErr l id 1)) (Tide.turnLst l id 1 2) last most) := by
  have HH := Lib.hid h
  clear h
  go_enter Tryz.func59, Tryz.ntmps59
  go_wp2_with fail
  refine (fleTurn S g v l last most id 1 2 _ HH.out).mono ?_
  rintro e w1 ⟨rfl, h1, c1⟩
  have HR := Lib.hid (show FleOut 149 S w g (.int .i64 (Tide.turnErr l id 1)) (Tide.turnLst l id 1 2) last most (.returned (.int .i64 (Tide.turnErr l id 1))) w1 from ⟨rfl, h1, c1⟩)
  clear h1 c1
  go_wp2_with fail
  go_ret
  exact HR.out
set_option maxHeartbeats 800000 in
theorem fleReady (S : Nat → Prop) (g : Nat) (v : Value) (l : List Tide.Pod) (last most id : Int) (w : World) (h : FAt 149 S w g v l last most) :
    Calls Tryz.prog 61 #[.pointer (some ⟨g, 0, none⟩), .int .i64 id] w (FleOut 149 S w g (.int .i64 (Tide.turnErr l id 2)) (Tide.turnLst l id 2 3) last most) := by
  have HH := Lib.hid h
  clear h
  go_enter Tryz.func61, Tryz.ntmps61
  go_wp2_with fail
  refine (fleTurn S g v l last most id 2 3 _ HH.out).mono ?_
  rintro e w1 ⟨rfl, h1, c1⟩
  have HR := Lib.hid (show FleOut 149 S w g (.int .i64 (Tide.turnErr l id 2)) (Tide.turnLst l id 2 3) last most (.returned (.int .i64 (Tide.turnErr l id 2))) w1 from ⟨rfl, h1, c1⟩)
  clear h1 c1
  go_wp2_with fail
  go_ret
  exact HR.out
set_option maxRecDepth 100000 in
set_option maxHeartbeats 3200000 in
theorem fleCrash (S : Nat → Prop) (g : Nat) (v : Value) (l : List Tide.Pod) (last most id : Int) (w : World) (h : FAt 149 S w g v l last most) :
    Calls Tryz.prog 105 #[.pointer (some ⟨g, 0, none⟩), .int .i64 id] w (FleOut 149 S w g (.tuple #[.int .i64 (Tide.crashNum l id), .int .i64 (Tide.crashErr l id)]) (Tide.crashLst l id) last most) := by
  have hs := h.small
  have HH := Lib.hid h
  clear h
  go_enter Tryz.func105, Tryz.ntmps105
  go_wp2_with fail
  refine (fleFind S g v l last most id _ HH.out).mono ?_
  rintro e w1 ⟨rfl, hb1⟩
  have HB := Lib.hid hb1
  clear hb1
  cases hf : Tide.findP l id with
  | none =>
    rw [idx_none]
    have HR := Lib.hid (show FleOut 149 S w g (.tuple #[.int .i64 (Tide.crashNum l id), .int .i64 (Tide.crashErr l id)]) (Tide.crashLst l id) last most (.returned (.tuple #[.int .i64 0, .int .i64 4])) w1 from fle_out HB.out (HH.out.below HB.out) (Tide.Chg.refl _ _) (by unfold Tide.crashErr Tide.crashNum; rw [hf]) (by unfold Tide.crashLst; rw [hf]))
    clear hf
    go_wp2_with fail
    go_ret2
    exact HR.out
  | some i =>
    rw [idx_some]
    obtain ⟨p, hp, _⟩ := Tide.findP_some hf
    obtain ⟨b, cap, rfl, hS, _, _, hbl, c0, c1, c2, fz⟩ := (HH.out.below HB.out).pod hp
    have hc : w1.cell? ⟨g, 0, none⟩ = some (.slice (some ⟨b, 0, none⟩) l.length cap) := (HH.out.below HB.out).head.here rfl
    have hil := Tide.get_lt hp
    have i0 : (0 : Int) ≤ (i : Int) := by omega
    have i1 : (i : Int) < (l.length : Int) := by omega
    have HE := Lib.hid (show Tide.crashErr l id = 0 ∧ Tide.crashNum l id = p.load ∧ Tide.crashLst l id = l.eraseIdx i by
      unfold Tide.crashErr Tide.crashNum Tide.crashLst; rw [hf]; exact ⟨rfl, by simp only; unfold Tide.loadAt; rw [hp]; rfl, rfl⟩)
    clear hf hp c0 c1 fz
    go_wp2_with fail
    refine (fleGone S g _ l last most i _ (HH.out.below HB.out) hil).mono ?_
    rintro e w2 ⟨⟨x, rfl⟩, ⟨v2, h2⟩, ch2⟩
    have HR := Lib.hid (show FleOut 149 S w g (.tuple #[.int .i64 (Tide.crashNum l id), .int .i64 (Tide.crashErr l id)]) (Tide.crashLst l id) last most (.returned (.tuple #[.int .i64 p.load, .int .i64 0])) w2 from fle_out HB.out h2 ch2 (by rw [HE.out.1, HE.out.2.1]) HE.out.2.2.symm)
    clear h2 ch2 hc c2
    go_wp2_with fail
    go_ret2
    exact HR.out
set_option maxRecDepth 100000 in
set_option maxHeartbeats 3200000 in
theorem fleGive (S : Nat → Prop) (g : Nat) (v : Value) (l : List Tide.Pod) (last most : Int) (w : World) (h : FAt 149 S w g v l last most) (hm : most ≤ 1000) (hld : ∀ p ∈ l, 0 ≤ p.load) :
    Calls Tryz.prog 144 #[.pointer (some ⟨g, 0, none⟩)] w (FleOut 149 S w g (.tuple #[.int .i64 (Tide.giveNum l most), .int .i64 (Tide.giveErr l most)]) (Tide.giveLst l most) last most) := by
  have hs := h.small
  have HH := Lib.hid h; have HLd := Lib.hid hld
  clear h hld
  go_enter Tryz.func144, Tryz.ntmps144
  go_wp2_with fail
  refine (fleBest_lt S g v l last most 3 _ HH.out).mono ?_
  rintro e w1 ⟨rfl, hb1⟩
  have HB := Lib.hid hb1
  clear hb1
  cases hf : Tide.best 3 Tide.ltLoad l with
  | none =>
    rw [idx_none]
    have hg : Tide.giveAt l most = none := by unfold Tide.giveAt; rw [hf]
    have HE := Lib.hid (show Tide.giveErr l most = 4 ∧ Tide.giveNum l most = 0 ∧ Tide.giveLst l most = l by unfold Tide.giveErr Tide.giveNum Tide.giveLst; rw [hg]; exact ⟨rfl, rfl, rfl⟩)
    clear hf hg
    go_wp2_with fail
    go_quiet (fail)
    go_wp2_with fail
    go_ret2
    exact fle_out (fle_drewN HB.out _) (HH.out.below (fle_drewN HB.out _)) (Tide.Chg.refl _ _) (by rw [HE.out.1, HE.out.2.1] <;> rfl) HE.out.2.2.symm
  | some i =>
    rw [idx_some]
    obtain ⟨p, hp, _⟩ := Tide.best_at hf
    obtain ⟨b, cap, rfl, hS, _, _, hbl, c0, c1, c2, fz⟩ := (HH.out.below HB.out).pod hp
    have hc : w1.cell? ⟨g, 0, none⟩ = some (.slice (some ⟨b, 0, none⟩) l.length cap) := (HH.out.below HB.out).head.here rfl
    have hmo : w1.cell? ⟨g, 2, none⟩ = some (.int .i64 most) := (HH.out.below HB.out).head.here rfl
    have hil := Tide.get_lt hp
    have i0 : (0 : Int) ≤ (i : Int) := by omega
    have i1 : (i : Int) < (l.length : Int) := by omega
    have hla : Tide.loadAt l i = p.load := by unfold Tide.loadAt; rw [hp]; rfl
    have l0 := HLd.out p (List.mem_of_getElem? hp)
    have HP := Lib.hid hp
    have HFz := Lib.hid fz
    by_cases q : most ≤ p.load
    · have hg : Tide.giveAt l most = none := by unfold Tide.giveAt; rw [hf]; simp only; rw [hla, if_pos q]
      have HE := Lib.hid (show Tide.giveErr l most = 4 ∧ Tide.giveNum l most = 0 ∧ Tide.giveLst l most = l by unfold Tide.giveErr Tide.giveNum Tide.giveLst; rw [hg]; exact ⟨rfl, rfl, rfl⟩)
      clear hf hg hp hla fz c0 c1
      go_wp2_with fail
      go_quiet (fail)
      go_wp2_with fail
      go_ret2
      exact fle_out (fle_drewN HB.out _) (HH.out.below (fle_drewN HB.out _)) (Tide.Chg.refl _ _) (by rw [HE.out.1, HE.out.2.1] <;> rfl) HE.out.2.2.symm
    · have q' : p.load < most := by omega
      have hg : Tide.giveAt l most = some i := by unfold Tide.giveAt; rw [hf]; simp only; rw [hla, if_neg q]
      have HE := Lib.hid (show Tide.giveErr l most = 0 ∧ Tide.giveNum l most = p.id ∧ Tide.giveLst l most = l.set i { p with load := p.load + 1 } by unfold Tide.giveErr Tide.giveNum Tide.giveLst; rw [hg]; simp only [HP.out]; exact ⟨trivial, rfl, trivial⟩)
      clear hf hg hp hla fz c1 q
      go_wp2_with fail
      go_quiet (fail)
      have f2 := HFz.out (i * 3 + 2)
      have HW := Lib.hid (HH.out.below (fle_drewN HB.out nq))
      obtain ⟨W, hW⟩ : ∃ W, Hid (w1.drewN nq = W) := ⟨_, Lib.hid rfl⟩
      have HBW := Lib.hid (fle_drewN HB.out nq)
      rw [hW.out] at HW HBW
      have p1 := HW.out.put (by decide) (k := i) (j := 2) (r' := { p with load := p.load + 1 }) (u := .int .i64 (p.load + 1)) HP.out (by decide) rfl
      have P1 := Lib.hid p1
      clear p1
      rw [hW.out]
      have hcW : W.cell? ⟨g, 0, none⟩ = some (.slice (some ⟨b, 0, none⟩) l.length cap) := HW.out.head.here rfl
      obtain ⟨b', cap', e, _, _, _, _, _, _, d2, fz⟩ := HW.out.pod HP.out
      cases e
      have f2W := fz (i * 3 + 2)
      have hcP : (W.setCell ⟨b, i * 3 + 2, none⟩ (.int .i64 (p.load + 1))).cell? ⟨g, 0, none⟩ = some (.slice (some ⟨b, 0, none⟩) l.length cap) := P1.out.1.head.here rfl
      obtain ⟨b', cap', e, _, _, _, _, e0, _, _, _⟩ := P1.out.1.pod (List.getElem?_set_self hil)
      rw [List.length_set] at e
      cases e
      have HE0 := Lib.hid (fle_out HBW.out P1.out.1 P1.out.2 (x := .tuple #[.int .i64 (Tide.giveNum l most), .int .i64 (Tide.giveErr l most)]) (l := Tide.giveLst l most) (x' := .tuple #[.int .i64 p.id, .int .i64 0]) (by rw [HE.out.1, HE.out.2.1]) HE.out.2.2.symm)
      clear hc hmo c0 c2 f2 fz hW
      go_wp2_with fail
      go_ret2
      exact HE0.out
set_option maxRecDepth 100000 in
set_option maxHeartbeats 3200000 in
theorem fleDone (S : Nat → Prop) (g : Nat) (v : Value) (l : List Tide.Pod) (last most id : Int) (w : World) (h : FAt 149 S w g v l last most) (hld : ∀ p ∈ l, 0 ≤ p.load ∧ p.load ≤ 1000) :
    Calls Tryz.prog 109 #[.pointer (some ⟨g, 0, none⟩), .int .i64 id] w (FleOut 149 S w g (.int .i64 (Tide.podDoneErr l id)) (Tide.podDoneLst l id) last most) := by
  have hs := h.small
  have HH := Lib.hid h; have HLd := Lib.hid hld
  clear h hld
  go_enter Tryz.func109, Tryz.ntmps109
  go_wp2_with fail
  refine (fleFind S g v l last most id _ HH.out).mono ?_
  rintro e w1 ⟨rfl, hb1⟩
  have HB := Lib.hid hb1
  clear hb1
  cases hf : Tide.findP l id with
  | none =>
    rw [idx_none]
    have HR := Lib.hid (show FleOut 149 S w g (.int .i64 (Tide.podDoneErr l id)) (Tide.podDoneLst l id) last most (.returned (.int .i64 4)) w1 from fle_out HB.out (HH.out.below HB.out) (Tide.Chg.refl _ _) (by unfold Tide.podDoneErr; rw [hf]) (by unfold Tide.podDoneLst; rw [hf]))
    clear hf
    go_wp2_with fail
    go_ret
    exact HR.out
  | some i =>
    rw [idx_some]
    obtain ⟨p, hp, _⟩ := Tide.findP_some hf
    obtain ⟨b, cap, rfl, hS, _, _, hbl, c0, c1, c2, fz⟩ := (HH.out.below HB.out).pod hp
    have hc : w1.cell? ⟨g, 0, none⟩ = some (.slice (some ⟨b, 0, none⟩) l.length cap) := (HH.out.below HB.out).head.here rfl
    have hil := Tide.get_lt hp
    have i0 : (0 : Int) ≤ (i : Int) := by omega
    have i1 : (i : Int) < (l.length : Int) := by omega
    have hla : Tide.loadAt l i = p.load := by unfold Tide.loadAt; rw [hp]; rfl
    have l0 := (HLd.out p (List.mem_of_getElem? hp)).1
    have l1 := (HLd.out p (List.mem_of_getElem? hp)).2
    have f2 := fz (i * 3 + 2)
    have HP := Lib.hid hp
    by_cases q : p.load = 0
    · have HR := Lib.hid (show FleOut 149 S w g (.int .i64 (Tide.podDoneErr l id)) (Tide.podDoneLst l id) last most (.returned (.int .i64 7)) w1 from fle_out HB.out (HH.out.below HB.out) (Tide.Chg.refl _ _) (by unfold Tide.podDoneErr; rw [hf]; simp only; rw [hla, if_pos q]) (by unfold Tide.podDoneLst; rw [hf]; simp only [hp]; rw [if_pos q]))
      rw [q] at c2
      clear hf hp hla c0 c1 fz f2 q l0 l1
      go_wp2_with fail
      go_ret
      exact HR.out
    · have q2 : (p.load == 0) = false := by simp only [beq_eq_false_iff_ne]; exact q
      have q3 : 1 ≤ p.load := by omega
      have p1 := (HH.out.below HB.out).put (by decide) (k := i) (j := 2) (r' := { p with load := p.load - 1 }) (u := .int .i64 (p.load - 1)) hp (by decide) rfl
      have P1 := Lib.hid p1
      have HErr := Lib.hid (show Tide.podDoneErr l id = 0 by unfold Tide.podDoneErr; rw [hf]; simp only; rw [hla, if_neg q])
      have HLst := Lib.hid (show Tide.podDoneLst l id = if p.state = 4 ∧ p.load - 1 = 0 then l.eraseIdx i else l.set i { p with load := p.load - 1 } by unfold Tide.podDoneLst; rw [hf]; simp only [hp]; rw [if_neg q])
      have hcP : (w1.setCell ⟨b, i * 3 + 2, none⟩ (.int .i64 (p.load - 1))).cell? ⟨g, 0, none⟩ = some (.slice (some ⟨b, 0, none⟩) l.length cap) := p1.1.head.here rfl
      obtain ⟨b', cap', e, _, _, _, _, e0, e1, e2, _⟩ := p1.1.pod (List.getElem?_set_self hil)
      rw [List.length_set] at e
      cases e
      have HE1 := Lib.hid e1; have HE2 := Lib.hid e2
      clear p1 hf hp hla c0 c1 fz q e0 e1 e2 hcP
      go_upto_region 7 with fail
      have hcP : (w1.setCell ⟨b, i * 3 + 2, none⟩ (.int .i64 (p.load - 1))).cell? ⟨g, 0, none⟩ = some (.slice (some ⟨b, 0, none⟩) l.length cap) := P1.out.1.head.here rfl
      have e1 := HE1.out; have e2 := HE2.out
      have q4 : 0 ≤ p.load - 1 := by omega
      clear f2 c2 q2 q3 l0 l1 hc
      obtain ⟨W, hW⟩ : ∃ W, Hid (w1.setCell ⟨b, i * 3 + 2, none⟩ (.int .i64 (p.load - 1)) = W) := ⟨_, Lib.hid rfl⟩
      rw [hW.out] at P1 hcP e1 e2 ⊢
      clear hW HE1 HE2
      generalize p.load - 1 = pl at P1 HLst e2 q4 ⊢
      by_cases d : p.state = 4
      · by_cases d2 : pl = 0
        · have HR0 := Lib.hid (show Tide.podDoneLst l id = (l.set i ⟨p.id, p.state, pl⟩).eraseIdx i by rw [HLst.out, if_pos ⟨d, d2⟩, List.eraseIdx_set_eq])
          rw [d] at e1
          rw [d2] at e2
          clear d d2 q4
          go_wp2_with fail
          refine (fleGone S g _ _ last most i _ P1.out.1 (by rw [List.length_set]; exact hil)).mono ?_
          rintro e w2 ⟨⟨x, rfl⟩, ⟨v2, h2⟩, ch2⟩
          have HR := Lib.hid (show FleOut 149 S w g (.int .i64 (Tide.podDoneErr l id)) (Tide.podDoneLst l id) last most (.returned (.int .i64 0)) w2 from fle_out HB.out h2 (P1.out.2.trans ch2) (by rw [HErr.out]) HR0.out.symm)
          clear h2 ch2 hcP e1 e2
          go_wp2_with fail
          go_ret
          exact HR.out
        · have d3 : (pl == 0) = false := by simp only [beq_eq_false_iff_ne]; exact d2
          have HR := Lib.hid (show FleOut 149 S w g (.int .i64 (Tide.podDoneErr l id)) (Tide.podDoneLst l id) last most (.returned (.int .i64 0)) W from fle_out HB.out P1.out.1 P1.out.2 (by rw [HErr.out]) (by rw [HLst.out, if_neg (fun c => d2 c.2)]))
          rw [d] at e1
          clear d d2
          go_wp2_with fail
          go_ret
          exact HR.out
      · have d3 : (p.state == 4) = false := by simp only [beq_eq_false_iff_ne]; exact d
        have HR := Lib.hid (show FleOut 149 S w g (.int .i64 (Tide.podDoneErr l id)) (Tide.podDoneLst l id) last most (.returned (.int .i64 0)) W from fle_out HB.out P1.out.1 P1.out.2 (by rw [HErr.out]) (by rw [HLst.out, if_neg (fun c => d c.1)]))
        clear d
        go_wp2_with fail
        go_ret
        exact HR.out
def mostOf (n : Int) : Int := min (max n 1) 100
def FleNewPost (T : TypeId) (w : World) (most : Int) (e : Ending) (w' : World) : Prop := ∃ g, e = .returned (.pointer (some ⟨g, 0, none⟩)) ∧ FAt T (Tide.Plus (fun _ => False) w w') w' g (.slice none 0 0) [] 0 most ∧ Below w.heap.size w w'
theorem fnew_made (T : TypeId) (w : World) (most : Int) : FleNewPost T w most (.returned (.pointer (some ⟨w.heap.size, 0, none⟩))) (w.alloc (.cells #[.slice none 0 0, .int .i64 0, .int .i64 most] T)) :=
  ⟨_, rfl, ⟨Tide.At.made w _ _, Tide.OwnRow.nil _ _ _ _, .inr ⟨Nat.le_refl _, by simp⟩, by simp, fun b hb => by rcases hb with hb | hb; exact hb.elim; exact hb.2⟩, (Below.refl _ _).alloc (Nat.le_refl _) _⟩
set_option maxRecDepth 100000 in
set_option maxHeartbeats 1600000 in
theorem fleNew (n : Int) (w : World) : Calls Tryz.prog 49 #[.int .i64 n] w (FleNewPost 149 w (mostOf n)) := by
  have HF := Lib.hid (fnew_made 149 w (mostOf n))
  by_cases h1 : n < 1
  · have HE := Lib.hid (show mostOf n = 1 by unfold mostOf; omega)
    rw [HE.out] at HF
    rw [HE.out]
    have h2 : n ≤ 1 := by omega
    go_enter Tryz.func49, Tryz.ntmps49
    go_wp2_with fail
    go_ret
    exact HF.out
  · by_cases h2 : 100 < n
    · have HE := Lib.hid (show mostOf n = 100 by unfold mostOf; omega)
      rw [HE.out] at HF
      rw [HE.out]
      have h3 : 1 < n := by omega
      clear h1
      go_enter Tryz.func49, Tryz.ntmps49
      go_wp2_with fail
      go_ret
      exact HF.out
    · have HE := Lib.hid (show mostOf n = n by unfold mostOf; omega)
      rw [HE.out] at HF
      rw [HE.out]
      have h3 : 1 ≤ n := by omega
      have h4 : n ≤ 100 := by omega
      clear h1 h2
      go_enter Tryz.func49, Tryz.ntmps49
      go_wp2_with fail
      go_ret
      exact HF.out
end Go.Proofs.YtlfaogkdghnmcaaGreat
