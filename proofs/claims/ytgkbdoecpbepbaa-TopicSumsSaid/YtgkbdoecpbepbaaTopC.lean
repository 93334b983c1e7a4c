/- The contracts of package topic: what each call answers and what becomes of the topic. -/
import Derived.Test.YtgkbdoecpbepbaaRows
import Derived.WalkKit
import Derived.WalkSpells
import Derived.WalkLawsBesides
import Derived.Lib.Hide
import Derived.Handy
import Derived.StillTailTactics
import Derived.Deep.QuietTactic
import Derived.BigQuiet
import Derived.Deep.RegionHeld3
import Derived.Test.YtgkbdoecpbepbaaNumC
import Derived.Test.YtgkbdoecpbepbaaMem
namespace Go.Proofs.Ytgkbdoecpbepbaa
open Go.RowKit
set_option linter.unusedVariables false

def partCells (l : List (Int × Int)) : List Value := l.flatMap fun p => [.int .i64 p.1, .int .i64 p.2]
theorem partCells_length (l : List (Int × Int)) : (partCells l).length = l.length * 2 := by
  unfold partCells; induction l with
  | nil => rfl
  | cons a l ih => simp [List.flatMap_cons, ih]; omega
theorem partCells_get0 : ∀ (l : List (Int × Int)) (k : Nat) (e o : Int), l[k]? = some (e, o) → (partCells l)[k * 2]? = some (.int .i64 e) ∧ (partCells l)[k * 2 + 1]? = some (.int .i64 o)
  | [], k, e, o, h => by simp at h
  | p :: l, 0, e, o, h => by
    simp at h; subst h; exact ⟨rfl, rfl⟩
  | p :: l, k + 1, e, o, h => by
    have := partCells_get0 l k e o (by simpa using h)
    have e1 : (k + 1) * 2 = k * 2 + 2 := by omega
    rw [e1]
    exact this
theorem partCells_set1 : ∀ (l : List (Int × Int)) (k : Nat) (e o e' : Int), l[k]? = some (e, o) → (partCells l).set (k * 2) (.int .i64 e') = partCells (l.set k (e', o))
  | [], k, e, o, e', h => by simp at h
  | p :: l, 0, e, o, e', h => by
    simp at h; subst h; rfl
  | p :: l, k + 1, e, o, e', h => by
    have := partCells_set1 l k e o e' (by simpa using h)
    have e1 : (k + 1) * 2 = k * 2 + 2 := by omega
    rw [e1]
    show _ :: _ :: (partCells l).set (k * 2) _ = _ :: _ :: partCells (l.set k _)
    rw [this]
theorem partCells_set2 : ∀ (l : List (Int × Int)) (k : Nat) (e o o' : Int), l[k]? = some (e, o) → (partCells l).set (k * 2 + 1) (.int .i64 o') = partCells (l.set k (e, o'))
  | [], k, e, o, e', h => by simp at h
  | p :: l, 0, e, o, e', h => by
    simp at h; subst h; rfl
  | p :: l, k + 1, e, o, e', h => by
    have := partCells_set2 l k e o e' (by simpa using h)
    have e1 : (k + 1) * 2 + 1 = k * 2 + 1 + 2 := by omega
    rw [e1]
    show _ :: _ :: (partCells l).set (k * 2 + 1) _ = _ :: _ :: partCells (l.set k _)
    rw [this]

/-- a topic: its own block g, its parts in block p -/
structure TopicAt (w : World) (g p : Nat) (l : List (Int × Int)) : Prop where
  head : Tide.At w g 78 #[.slice (some ⟨p, 0, none⟩) l.length l.length]
  parts : Tide.At w p 81 (partCells l).toArray
  small : l.length ≤ 20

theorem TopicAt.apart {w : World} {g p : Nat} {l : List (Int × Int)} (h : TopicAt w g p l) : g ≠ p := h.head.apart h.parts (by decide)
theorem TopicAt.put1 {w : World} {g p : Nat} {l : List (Int × Int)} (h : TopicAt w g p l) {n : Nat} {e o : Int} (hn : l[n]? = some (e, o)) (e' : Int) :
    TopicAt ((w.setCell ⟨p, n * 2, none⟩ (.int .i64 e')).drew) g p (l.set n (e', o)) ∧ Tide.Chg (· = p) w ((w.setCell ⟨p, n * 2, none⟩ (.int .i64 e')).drew) := by
  refine ⟨⟨?_, ?_, by simpa using h.small⟩, ((Tide.Chg.refl (· = p) w).put (p := ⟨p, n * 2, none⟩) (.inl rfl) _).drew⟩
  · have := (h.head.other (p := ⟨p, n * 2, none⟩) h.apart (.int .i64 e')).drew
    rw [List.length_set]; exact this
  · have := (h.parts.put (n * 2) (.int .i64 e')).drew
    rw [← partCells_set1 l n e o e' hn]
    simpa using this
theorem TopicAt.put2 {w : World} {g p : Nat} {l : List (Int × Int)} (h : TopicAt w g p l) {n : Nat} {e o : Int} (hn : l[n]? = some (e, o)) (o' : Int) :
    TopicAt (w.setCell ⟨p, n * 2 + 1, none⟩ (.int .i64 o')) g p (l.set n (e, o')) ∧ Tide.Chg (· = p) w (w.setCell ⟨p, n * 2 + 1, none⟩ (.int .i64 o')) := by
  refine ⟨⟨?_, ?_, by simpa using h.small⟩, (Tide.Chg.refl (· = p) w).put (p := ⟨p, n * 2 + 1, none⟩) (.inl rfl) _⟩
  · have := h.head.other (p := ⟨p, n * 2 + 1, none⟩) h.apart (.int .i64 o')
    rw [List.length_set]; exact this
  · have := h.parts.put (n * 2 + 1) (.int .i64 o')
    rw [← partCells_set2 l n e o o' hn]
    simpa using this
theorem TopicAt.chg {S : Nat → Prop} {w w' : World} {g p : Nat} {l : List (Int × Int)} (h : TopicAt w g p l) (hc : Tide.Chg S w w') (hg : ¬ S g) (hp : ¬ S p) : TopicAt w' g p l :=
  ⟨h.head.chg hc hg, h.parts.chg hc hp, h.small⟩

set_option maxHeartbeats 400000 in
theorem topMake_none (g p : Nat) (l : List (Int × Int)) (n k : Int) (w : World) (ht : TopicAt w g p l) (h : n < 0 ∨ (l.length : Int) ≤ n) :
    Calls Try.prog 14 #[.pointer (some ⟨g, 0, none⟩), .int .i64 n, .int .i64 k] w fun e w' => e = .returned (.int .i64 4) ∧ w = w' := by
  have hc : w.cell? ⟨g, 0, none⟩ = some (.slice (some ⟨p, 0, none⟩) l.length l.length) := ht.head.here rfl
  by_cases h0 : n < 0
  · clear h
    go_enter Try.func14, Try.ntmps14
    go_wp2
    go_ret
    exact ⟨rfl, rfl⟩
  · have h1 : (l.length : Int) ≤ n := by omega
    clear h
    go_enter Try.func14, Try.ntmps14
    go_wp2
    go_ret
    exact ⟨rfl, rfl⟩

set_option maxRecDepth 100000 in
set_option maxHeartbeats 400000 in
theorem topMake_yes (g p : Nat) (l : List (Int × Int)) (n : Nat) (k e o : Int) (w : World) (ht : TopicAt w g p l) (hn : l[n]? = some (e, o)) (k0 : 1 ≤ k) (k1 : k ≤ 100000) :
    Calls Try.prog 14 #[.pointer (some ⟨g, 0, none⟩), .int .i64 n, .int .i64 k] w fun en w' => en = .returned (.int .i64 0) ∧ TopicAt w' g p (l.set n (Tide.addc e k, o)) ∧ Tide.Chg (· = p) w w' := by
  have hc : w.cell? ⟨g, 0, none⟩ = some (.slice (some ⟨p, 0, none⟩) l.length l.length) := ht.head.here rfl
  have hlt : n < l.length := by
    rcases Nat.lt_or_ge n l.length with h | h
    · exact h
    · rw [List.getElem?_eq_none h] at hn; cases hn
  have hs := ht.small
  have hp : w.cell? ⟨p, n * 2, none⟩ = some (.int .i64 e) := ht.parts.here (by simpa using (partCells_get0 l n e o hn).1)
  have hf : w.frozen? ⟨p, n * 2, none⟩ = false := ht.parts.soft _
  have HT := Lib.hid ht; have HN := Lib.hid hn
  clear ht hn
  go_enter Try.func14, Try.ntmps14
  go_wp2_with fail
  go_region_with (go_at_call 40; refine (numAdd _ _ _).mono ?_; rintro e w' ⟨rfl, rfl⟩)
  all_goals
    go_wp2
    go_ret
    exact ⟨rfl, HT.out.put1 HN.out _⟩

set_option maxHeartbeats 400000 in
theorem topMake_arg (g p : Nat) (l : List (Int × Int)) (n k : Int) (w : World) (ht : TopicAt w g p l) (n0 : 0 ≤ n) (n1 : n < (l.length : Int)) (h : k < 1 ∨ 100000 < k) :
    Calls Try.prog 14 #[.pointer (some ⟨g, 0, none⟩), .int .i64 n, .int .i64 k] w fun e w' => e = .returned (.int .i64 1) ∧ w = w' := by
  have hc : w.cell? ⟨g, 0, none⟩ = some (.slice (some ⟨p, 0, none⟩) l.length l.length) := ht.head.here rfl
  by_cases h0 : k < 1
  · clear h
    go_enter Try.func14, Try.ntmps14
    go_wp2
    go_ret
    exact ⟨rfl, rfl⟩
  · have h1 : 100000 < k := by omega
    have h2 : 1 ≤ k := by omega
    clear h h0
    go_enter Try.func14, Try.ntmps14
    go_wp2
    go_ret
    exact ⟨rfl, rfl⟩

set_option maxHeartbeats 400000 in
theorem topTake_none (g p : Nat) (l : List (Int × Int)) (n k : Int) (w : World) (ht : TopicAt w g p l) (h : n < 0 ∨ (l.length : Int) ≤ n) :
    Calls Try.prog 16 #[.pointer (some ⟨g, 0, none⟩), .int .i64 n, .int .i64 k] w fun e w' => e = .returned (.int .i64 4) ∧ w = w' := by
  have hc : w.cell? ⟨g, 0, none⟩ = some (.slice (some ⟨p, 0, none⟩) l.length l.length) := ht.head.here rfl
  by_cases h0 : n < 0
  · clear h
    go_enter Try.func16, Try.ntmps16
    go_wp2
    go_ret
    exact ⟨rfl, rfl⟩
  · have h1 : (l.length : Int) ≤ n := by omega
    clear h
    go_enter Try.func16, Try.ntmps16
    go_wp2
    go_ret
    exact ⟨rfl, rfl⟩

set_option maxHeartbeats 400000 in
theorem topTake_yes (g p : Nat) (l : List (Int × Int)) (n : Nat) (k e o : Int) (w : World) (ht : TopicAt w g p l) (hn : l[n]? = some (e, o)) (k0 : o ≤ k) (k1 : k ≤ e) :
    Calls Try.prog 16 #[.pointer (some ⟨g, 0, none⟩), .int .i64 n, .int .i64 k] w fun en w' => en = .returned (.int .i64 0) ∧ TopicAt w' g p (l.set n (e, k)) ∧ Tide.Chg (· = p) w w' := by
  have hc : w.cell? ⟨g, 0, none⟩ = some (.slice (some ⟨p, 0, none⟩) l.length l.length) := ht.head.here rfl
  have hlt : n < l.length := by
    rcases Nat.lt_or_ge n l.length with h | h
    · exact h
    · rw [List.getElem?_eq_none h] at hn; cases hn
  have hs := ht.small
  have hp : w.cell? ⟨p, n * 2, none⟩ = some (.int .i64 e) := ht.parts.here (by simpa using (partCells_get0 l n e o hn).1)
  have hp' : w.cell? ⟨p, n * 2 + 1, none⟩ = some (.int .i64 o) := ht.parts.here (by simpa using (partCells_get0 l n e o hn).2)
  have hf : w.frozen? ⟨p, n * 2 + 1, none⟩ = false := ht.parts.soft _
  have HT := Lib.hid ht; have HN := Lib.hid hn
  clear ht hn
  go_enter Try.func16, Try.ntmps16
  go_wp2_with fail
  go_ret
  exact ⟨rfl, HT.out.put2 HN.out _⟩

set_option maxHeartbeats 400000 in
theorem topTake_arg (g p : Nat) (l : List (Int × Int)) (n : Nat) (k e o : Int) (w : World) (ht : TopicAt w g p l) (hn : l[n]? = some (e, o)) (h : k < o ∨ e < k) :
    Calls Try.prog 16 #[.pointer (some ⟨g, 0, none⟩), .int .i64 n, .int .i64 k] w fun en w' => en = .returned (.int .i64 1) ∧ w = w' := by
  have hc : w.cell? ⟨g, 0, none⟩ = some (.slice (some ⟨p, 0, none⟩) l.length l.length) := ht.head.here rfl
  have hlt : n < l.length := by
    rcases Nat.lt_or_ge n l.length with h | h
    · exact h
    · rw [List.getElem?_eq_none h] at hn; cases hn
  have hs := ht.small
  have hp : w.cell? ⟨p, n * 2, none⟩ = some (.int .i64 e) := ht.parts.here (by simpa using (partCells_get0 l n e o hn).1)
  have hp' : w.cell? ⟨p, n * 2 + 1, none⟩ = some (.int .i64 o) := ht.parts.here (by simpa using (partCells_get0 l n e o hn).2)
  clear ht hn
  by_cases h0 : k < o
  · clear h
    go_enter Try.func16, Try.ntmps16
    go_wp2_with fail
    go_ret
    exact ⟨rfl, rfl⟩
  · have h1 : e < k := by omega
    have h2 : o ≤ k := by omega
    clear h h0
    go_enter Try.func16, Try.ntmps16
    go_wp2_with fail
    go_ret
    exact ⟨rfl, rfl⟩
end Go.Proofs.Ytgkbdoecpbepbaa
