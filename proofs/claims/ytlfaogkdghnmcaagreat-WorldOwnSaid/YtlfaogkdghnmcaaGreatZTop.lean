/- The contracts of package topic: what each call answers and what becomes of the topic. The contracts of topic.New and Lags. What Make and Take do to a topic's list; their contracts. -/
import Derived.Test.YtlfaogkdghnmcaaGreatRows
import Derived.WalkKit
import Derived.WalkSpells
import Derived.WalkLawsBesides
import Derived.Lib.Hide
import Derived.Handy
import Derived.StillTailTactics
import Derived.Deep.QuietTactic
import Derived.BigQuiet
import Derived.Deep.RegionHeld3
import Derived.Test.YtlfaogkdghnmcaaGreatZNum
import Derived.Test.YtlfaogkdghnmcaaGreatZBase
import Derived.Laws.MakeOwn

set_option linter.unusedVariables false
set_option linter.unusedSimpArgs false
namespace Go.Proofs.YtlfaogkdghnmcaaGreat
open Go.RowKit
set_option linter.unusedVariables false

def partCells (l : List (Int × Int)) : List Value := l.flatMap fun p => [.int .i64 p.1, .int .i64 p.2]
theorem partCells_length (l : List (Int × Int)) : (partCells l).length = l.length * 2 := by
  unfold partCells; induction l with
  | nil => rfl
  | cons a l ih => simp [List.flatMap_cons, ih]; omega
theorem partCells_get0 : ∀ (l : List (Int × Int)) (k : Nat) (e o : Int), l[k]? = some (e, o) → (partCells l)[k * 2]? = some (.int .i64 e) ∧ (partCells l)[k * 2 + 1]? = some (.int .i64 o)
  | [], k, e, o, h => by simp at h
  | p :: l, 0, e, o, h => by
    simp at h; subst h; exact ⟨rfl, rfl⟩
  | p :: l, k + 1, e, o, h => by
    have := partCells_get0 l k e o (by simpa using h)
    have e1 : (k + 1) * 2 = k * 2 + 2 := by omega
    rw [e1]
    exact this
theorem partCells_set1 : ∀ (l : List (Int × Int)) (k : Nat) (e o e' : Int), l[k]? = some (e, o) → (partCells l).set (k * 2) (.int .i64 e') = partCells (l.set k (e', o))
  | [], k, e, o, e', h => by simp at h
  | p :: l, 0, e, o, e', h => by
    simp at h; subst h; rfl
  | p :: l, k + 1, e, o, e', h => by
    have := partCells_set1 l k e o e' (by simpa using h)
    have e1 : (k + 1) * 2 = k * 2 + 2 := by omega
    rw [e1]
    show _ :: _ :: (partCells l).set (k * 2) _ = _ :: _ :: partCells (l.set k _)
    rw [this]
theorem partCells_set2 : ∀ (l : List (Int × Int)) (k : Nat) (e o o' : Int), l[k]? = some (e, o) → (partCells l).set (k * 2 + 1) (.int .i64 o') = partCells (l.set k (e, o'))
  | [], k, e, o, e', h => by simp at h
  | p :: l, 0, e, o, e', h => by
    simp at h; subst h; rfl
  | p :: l, k + 1, e, o, e', h => by
    have := partCells_set2 l k e o e' (by simpa using h)
    have e1 : (k + 1) * 2 + 1 = k * 2 + 1 + 2 := by omega
    rw [e1]
    show _ :: _ :: (partCells l).set (k * 2 + 1) _ = _ :: _ :: partCells (l.set k _)
    rw [this]

/-- a topic: its own block g, its parts in block p -/
structure TopicAt (w : World) (g p : Nat) (l : List (Int × Int)) : Prop where
  head : Tide.At w g 145 #[.slice (some ⟨p, 0, none⟩) l.length l.length]
  parts : Tide.At w p 157 (partCells l).toArray
  small : l.length ≤ 20

theorem TopicAt.apart {w : World} {g p : Nat} {l : List (Int × Int)} (h : TopicAt w g p l) : g ≠ p := h.head.apart h.parts (by decide)
theorem TopicAt.put1 {w : World} {g p : Nat} {l : List (Int × Int)} (h : TopicAt w g p l) {n : Nat} {e o : Int} (hn : l[n]? = some (e, o)) (e' : Int) :
    TopicAt ((w.setCell ⟨p, n * 2, none⟩ (.int .i64 e')).drew) g p (l.set n (e', o)) ∧ Tide.Chg (· = p) w ((w.setCell ⟨p, n * 2, none⟩ (.int .i64 e')).drew) := by
  refine ⟨⟨?_, ?_, by simpa using h.small⟩, ((Tide.Chg.refl (· = p) w).put (p := ⟨p, n * 2, none⟩) (.inl rfl) _).drew⟩
  · have := (h.head.other (p := ⟨p, n * 2, none⟩) h.apart (.int .i64 e')).drew
    rw [List.length_set]; exact this
  · have := (h.parts.put (n * 2) (.int .i64 e')).drew
    rw [← partCells_set1 l n e o e' hn]
    simpa using this
theorem TopicAt.put2 {w : World} {g p : Nat} {l : List (Int × Int)} (h : TopicAt w g p l) {n : Nat} {e o : Int} (hn : l[n]? = some (e, o)) (o' : Int) :
    TopicAt (w.setCell ⟨p, n * 2 + 1, none⟩ (.int .i64 o')) g p (l.set n (e, o')) ∧ Tide.Chg (· = p) w (w.setCell ⟨p, n * 2 + 1, none⟩ (.int .i64 o')) := by
  refine ⟨⟨?_, ?_, by simpa using h.small⟩, (Tide.Chg.refl (· = p) w).put (p := ⟨p, n * 2 + 1, none⟩) (.inl rfl) _⟩
  · have := h.head.other (p := ⟨p, n * 2 + 1, none⟩) h.apart (.int .i64 o')
    rw [List.length_set]; exact this
  · have := h.parts.put (n * 2 + 1) (.int .i64 o')
    rw [← partCells_set2 l n e o o' hn]
    simpa using this
theorem TopicAt.chg {S : Nat → Prop} {w w' : World} {g p : Nat} {l : List (Int × Int)} (h : TopicAt w g p l) (hc : Tide.Chg S w w') (hg : ¬ S g) (hp : ¬ S p) : TopicAt w' g p l :=
  ⟨h.head.chg hc hg, h.parts.chg hc hp, h.small⟩

set_option maxHeartbeats 400000 in
theorem topMake_none (g p : Nat) (l : List (Int × Int)) (n k : Int) (w : World) (ht : TopicAt w g p l) (h : n < 0 ∨ (l.length : Int) ≤ n) :
    Calls Tryz.prog 52 #[.pointer (some ⟨g, 0, none⟩), .int .i64 n, .int .i64 k] w fun e w' => e = .returned (.int .i64 4) ∧ w = w' := by
  have hc : w.cell? ⟨g, 0, none⟩ = some (.slice (some ⟨p, 0, none⟩) l.length l.length) := ht.head.here rfl
  by_cases h0 : n < 0
  · clear h
    go_enter Tryz.func52, Tryz.ntmps52
    go_wp2
    go_ret
    exact ⟨rfl, rfl⟩
  · have h1 : (l.length : Int) ≤ n := by omega
    clear h
    go_enter Tryz.func52, Tryz.ntmps52
    go_wp2
    go_ret
    exact ⟨rfl, rfl⟩

set_option maxRecDepth 100000 in
set_option maxHeartbeats 400000 in
theorem topMake_yes (g p : Nat) (l : List (Int × Int)) (n : Nat) (k e o : Int) (w : World) (ht : TopicAt w g p l) (hn : l[n]? = some (e, o)) (k0 : 1 ≤ k) (k1 : k ≤ 100000) :
    Calls Tryz.prog 52 #[.pointer (some ⟨g, 0, none⟩), .int .i64 n, .int .i64 k] w fun en w' => en = .returned (.int .i64 0) ∧ TopicAt w' g p (l.set n (Tide.addc e k, o)) ∧ Tide.Chg (· = p) w w' := by
  have hc : w.cell? ⟨g, 0, none⟩ = some (.slice (some ⟨p, 0, none⟩) l.length l.length) := ht.head.here rfl
  have hlt : n < l.length := by
    rcases Nat.lt_or_ge n l.length with h | h
    · exact h
    · rw [List.getElem?_eq_none h] at hn; cases hn
  have hs := ht.small
  have hp : w.cell? ⟨p, n * 2, none⟩ = some (.int .i64 e) := ht.parts.here (by simpa using (partCells_get0 l n e o hn).1)
  have hf : w.frozen? ⟨p, n * 2, none⟩ = false := ht.parts.soft _
  have HT := Lib.hid ht; have HN := Lib.hid hn
  clear ht hn
  go_enter Tryz.func52, Tryz.ntmps52
  go_wp2_with fail
  go_region_with (go_at_call 98; refine (numAdd _ _ _).mono ?_; rintro e w' ⟨rfl, rfl⟩)
  all_goals
    go_wp2
    go_ret
    exact ⟨rfl, HT.out.put1 HN.out _⟩

set_option maxHeartbeats 400000 in
theorem topMake_arg (g p : Nat) (l : List (Int × Int)) (n k : Int) (w : World) (ht : TopicAt w g p l) (n0 : 0 ≤ n) (n1 : n < (l.length : Int)) (h : k < 1 ∨ 100000 < k) :
    Calls Tryz.prog 52 #[.pointer (some ⟨g, 0, none⟩), .int .i64 n, .int .i64 k] w fun e w' => e = .returned (.int .i64 1) ∧ w = w' := by
  have hc : w.cell? ⟨g, 0, none⟩ = some (.slice (some ⟨p, 0, none⟩) l.length l.length) := ht.head.here rfl
  by_cases h0 : k < 1
  · clear h
    go_enter Tryz.func52, Tryz.ntmps52
    go_wp2
    go_ret
    exact ⟨rfl, rfl⟩
  · have h1 : 100000 < k := by omega
    have h2 : 1 ≤ k := by omega
    clear h h0
    go_enter Tryz.func52, Tryz.ntmps52
    go_wp2
    go_ret
    exact ⟨rfl, rfl⟩

set_option maxHeartbeats 400000 in
theorem topTake_none (g p : Nat) (l : List (Int × Int)) (n k : Int) (w : World) (ht : TopicAt w g p l) (h : n < 0 ∨ (l.length : Int) ≤ n) :
    Calls Tryz.prog 53 #[.pointer (some ⟨g, 0, none⟩), .int .i64 n, .int .i64 k] w fun e w' => e = .returned (.int .i64 4) ∧ w = w' := by
  have hc : w.cell? ⟨g, 0, none⟩ = some (.slice (some ⟨p, 0, none⟩) l.length l.length) := ht.head.here rfl
  by_cases h0 : n < 0
  · clear h
    go_enter Tryz.func53, Tryz.ntmps53
    go_wp2
    go_ret
    exact ⟨rfl, rfl⟩
  · have h1 : (l.length : Int) ≤ n := by omega
    clear h
    go_enter Tryz.func53, Tryz.ntmps53
    go_wp2
    go_ret
    exact ⟨rfl, rfl⟩

set_option maxHeartbeats 400000 in
theorem topTake_yes (g p : Nat) (l : List (Int × Int)) (n : Nat) (k e o : Int) (w : World) (ht : TopicAt w g p l) (hn : l[n]? = some (e, o)) (k0 : o ≤ k) (k1 : k ≤ e) :
    Calls Tryz.prog 53 #[.pointer (some ⟨g, 0, none⟩), .int .i64 n, .int .i64 k] w fun en w' => en = .returned (.int .i64 0) ∧ TopicAt w' g p (l.set n (e, k)) ∧ Tide.Chg (· = p) w w' := by
  have hc : w.cell? ⟨g, 0, none⟩ = some (.slice (some ⟨p, 0, none⟩) l.length l.length) := ht.head.here rfl
  have hlt : n < l.length := by
    rcases Nat.lt_or_ge n l.length with h | h
    · exact h
    · rw [List.getElem?_eq_none h] at hn; cases hn
  have hs := ht.small
  have hp : w.cell? ⟨p, n * 2, none⟩ = some (.int .i64 e) := ht.parts.here (by simpa using (partCells_get0 l n e o hn).1)
  have hp' : w.cell? ⟨p, n * 2 + 1, none⟩ = some (.int .i64 o) := ht.parts.here (by simpa using (partCells_get0 l n e o hn).2)
  have hf : w.frozen? ⟨p, n * 2 + 1, none⟩ = false := ht.parts.soft _
  have HT := Lib.hid ht; have HN := Lib.hid hn
  clear ht hn
  go_enter Tryz.func53, Tryz.ntmps53
  go_wp2_with fail
  go_ret
  exact ⟨rfl, HT.out.put2 HN.out _⟩

set_option maxHeartbeats 400000 in
theorem topTake_arg (g p : Nat) (l : List (Int × Int)) (n : Nat) (k e o : Int) (w : World) (ht : TopicAt w g p l) (hn : l[n]? = some (e, o)) (h : k < o ∨ e < k) :
    Calls Tryz.prog 53 #[.pointer (some ⟨g, 0, none⟩), .int .i64 n, .int .i64 k] w fun en w' => en = .returned (.int .i64 1) ∧ w = w' := by
  have hc : w.cell? ⟨g, 0, none⟩ = some (.slice (some ⟨p, 0, none⟩) l.length l.length) := ht.head.here rfl
  have hlt : n < l.length := by
    rcases Nat.lt_or_ge n l.length with h | h
    · exact h
    · rw [List.getElem?_eq_none h] at hn; cases hn
  have hs := ht.small
  have hp : w.cell? ⟨p, n * 2, none⟩ = some (.int .i64 e) := ht.parts.here (by simpa using (partCells_get0 l n e o hn).1)
  have hp' : w.cell? ⟨p, n * 2 + 1, none⟩ = some (.int .i64 o) := ht.parts.here (by simpa using (partCells_get0 l n e o hn).2)
  clear ht hn
  by_cases h0 : k < o
  · clear h
    go_enter Tryz.func53, Tryz.ntmps53
    go_wp2_with fail
    go_ret
    exact ⟨rfl, rfl⟩
  · have h1 : e < k := by omega
    have h2 : o ≤ k := by omega
    clear h h0
    go_enter Tryz.func53, Tryz.ntmps53
    go_wp2_with fail
    go_ret
    exact ⟨rfl, rfl⟩
end Go.Proofs.YtlfaogkdghnmcaaGreat


namespace Go.Proofs.YtlfaogkdghnmcaaGreat
open Go.RowKit
set_option linter.unusedVariables false

theorem info_int : (Tryz.prog.info? 3).map (fun i => (i.zero, i.size, i.bytes)) = some (some (.int .i64 0), 1, 8) := by kernel_rfl
theorem info_part : (Tryz.prog.info? 157).map (fun i => (i.zero, i.size, i.bytes)) = some (some (.agg #[.int .i64 0, .int .i64 0]), 2, 16) := by kernel_rfl

def lagsOf (l : List (Int × Int)) : List Int := l.map fun p => p.1 - p.2
/-- a list of integers in memory of the call's own -/
def OwnInts (B : Nat) (w : World) (v : Value) (xs : List Int) : Prop := w.ownsRow B 3 1 v xs.length (xs.map (Value.int .i64))

def LagsPost (w0 : World) (xs : List Int) (e : Ending) (w' : World) : Prop := ∃ v, e = .returned v ∧ OwnInts w0.heap.size w' v xs ∧ Below w0.heap.size w0 w'

/-- the ends and offsets are numbers in bounds -/
def Small (l : List (Int × Int)) : Prop := ∀ p ∈ l, 0 ≤ p.2 ∧ p.2 ≤ p.1 ∧ p.1 ≤ 1000000000000000

theorem take_lags (l : List (Int × Int)) (k : Nat) (e o : Int) (h : l[k]? = some (e, o)) : lagsOf (l.take (k + 1)) = lagsOf (l.take k) ++ [e - o] := by
  unfold lagsOf
  rw [List.take_add_one, h]
  simp

theorem below_app {w wr w1 : World} {o o' : Obj} {v : Value} {xs : List Int} (hb : Below w.heap.size w wr) (ho : OwnInts w.heap.size wr v xs) (hg : ((wr.alloc o).alloc o').grownBy w1 v.ownBlock) : Below w.heap.size w w1 :=
  (((hb.alloc hb.size _).alloc (by have := hb.size; simp; omega) _)).grown hg (by have := hb.size; simp; omega) (Tide.own_ge ho)
theorem own_lags {l : List (Int × Int)} {k : Nat} {e o : Int} {B : Nat} {w : World} {v : Value} (h : l[k]? = some (e, o))
    (ho : w.ownsRow B 3 1 v ((lagsOf (l.take k)).length + 1) ((lagsOf (l.take k)).map (Value.int .i64) ++ [.int .i64 (e - o)])) : OwnInts B w v (lagsOf (l.take (k + 1))) := by
  rw [take_lags l k e o h]
  unfold OwnInts
  simpa using ho

set_option maxRecDepth 100000 in
set_option maxHeartbeats 800000 in
theorem topLags (g p : Nat) (l : List (Int × Int)) (w : World) (ht : TopicAt w g p l) (hsm : Small l) :
    Calls Tryz.prog 70 #[.pointer (some ⟨g, 0, none⟩)] w (LagsPost w (lagsOf l)) := by
  have hc : w.cell? ⟨g, 0, none⟩ = some (.slice (some ⟨p, 0, none⟩) l.length l.length) := ht.head.here rfl
  have hs := ht.small
  have hpl := ht.parts.inside
  have HT := Lib.hid ht; have HS := Lib.hid hsm
  obtain ⟨i0, hi, hz0, hz1, hz2⟩ := info_parts info_int
  clear ht hsm
  go_enter Tryz.func70, Tryz.ntmps70
  go_wp2_with fail
  go_loopw [3, 11] (fun v i wr => ∃ k : Nat, k ≤ l.length ∧ i = .int .i64 k ∧ Hid (OwnInts w.heap.size wr v (lagsOf (l.take k))) ∧ Below w.heap.size w wr) (fun _ i _ => l.length - (intOf i).toNat)
  case atStart => exact ⟨0, by omega, rfl, ⟨by simp [lagsOf], .inl ⟨rfl, by simp [lagsOf]⟩⟩, Below.refl _ _⟩
  case round =>
    obtain ⟨k, hk, rfl, hown, hbw⟩ := hrel
    by_cases hlt : k < l.length
    · obtain ⟨⟨e, o⟩, hn⟩ : ∃ q, l[k]? = some q := ⟨_, List.getElem?_eq_getElem hlt⟩
      have hmem : (e, o) ∈ l := List.mem_of_getElem? hn
      obtain ⟨o0, o1, e1⟩ := HS.out _ hmem
      simp only at o0 o1 e1
      have hp : wr.cell? ⟨p, k * 2, none⟩ = some (.int .i64 e) := (hbw.cell (p := ⟨p, k * 2, none⟩) hpl).trans (HT.out.parts.here (by simpa using (partCells_get0 l k e o hn).1))
      have hp' : wr.cell? ⟨p, k * 2 + 1, none⟩ = some (.int .i64 o) := (hbw.cell (p := ⟨p, k * 2 + 1, none⟩) hpl).trans (HT.out.parts.here (by simpa using (partCells_get0 l k e o hn).2))
      have HN := Lib.hid hn
      clear hn hmem
      have hlen : Hid ((lagsOf (l.take k)).length = k) := by show _ = _; unfold lagsOf; simp; omega
      go_wp2_with (at_builtin; refine wpList_append_own _ rfl (.tmp 15) (.tmp 21) 22 rfl w.heap.size 3 i0 (.int .i64 0) 1 8 Tryz.underlying22 hi hz0 hz1 hz2 rfl (by decide) _ _ _ rfl ((hown.out.alloc _).alloc _) ⟨wr.heap.size + 1, 0, none⟩ 1 1 [.int .i64 (e - o)] rfl rfl ?c1 ?c2 ?c3 ?c4 ?c5 ?_)
      case c1 => exact Tide.new_one (by simp)
      case c2 => simp [Value.oneCell']
      case c3 => rw [hlen.out]; simp only [maxLen]; omega
      case c4 => rw [hlen.out]; omega
      case c5 => have := hbw.size; simp; omega
      intro v' w1 hown1 hg1 _
      have hb1 := below_app hbw hown.out hg1
      have ho1 := own_lags HN.out hown1
      clear hown1 hg1 hown hbw hlen hp hp' HN
      go_wp2_with fail
      go_roundw
      case rel => exact ⟨k + 1, by omega, by go_num, ho1, hb1⟩
      case measure => simp [intOf]; omega
    · go_wp2_with fail
      go_ret
      exact ⟨_, rfl, by have := hown.out; rw [List.take_of_length_le (by omega)] at this; exact this, hbw⟩

def NewPost (w0 : World) (n : Nat) (e : Ending) (w' : World) : Prop := ∃ g p : Nat, e = .returned (.tuple #[.pointer (some ⟨g, 0, none⟩), .int .i64 0]) ∧ TopicAt w' g p (List.replicate n (0, 0)) ∧ w0.heap.size ≤ g ∧ w0.heap.size ≤ p ∧ Below w0.heap.size w0 w'

theorem partCells_zero : ∀ n : Nat, partCells (List.replicate n (0, 0)) = List.replicate (n * 2) (.int .i64 0)
  | 0 => rfl
  | n + 1 => by
    rw [List.replicate_succ, show (n + 1) * 2 = n * 2 + 1 + 1 by omega, List.replicate_succ, List.replicate_succ, ← partCells_zero n]
    rfl
theorem madeCells_two (n : Nat) : madeCells #[.int .i64 0, .int .i64 0] (n * 2) = (List.replicate (n * 2) (Value.int .i64 0)).toArray := by
  unfold madeCells
  apply Array.ext
  · simp
  · intro i h1 h2
    have hm : i % 2 = 0 ∨ i % 2 = 1 := by omega
    simp
    rcases hm with hm | hm <;> rw [hm] <;> rfl

set_option maxRecDepth 100000 in
set_option maxHeartbeats 800000 in
theorem topNew (n : Nat) (h0 : 1 ≤ n) (h1 : n ≤ 20) (w : World) :
    Calls Tryz.prog 47 #[.int .i64 n] w (NewPost w n) := by
  have hmk : ∀ W : World, (Instr.makeSlice 143 (.int .i64 (n : Int)) (.int .i64 (n : Int))).run Tryz.prog W = .ok (.slice (some ⟨W.heap.size, 0, none⟩) n n) (W.alloc (.cells (partCells (List.replicate n (0, 0))).toArray 157)) := fun W => by
    obtain ⟨i0, hi, hz0, hz1, hz2⟩ := info_parts info_part
    have := run_make (P := Tryz.prog) W 143 157 i0 _ Tryz.underlying143 hi hz0 .i64 .i64 n n (by omega) (by omega) (by rw [hz2]; omega) (by omega)
    rw [Int.toNat_natCast, hz1] at this
    rw [this, partCells_zero, ← madeCells_two]
    rfl
  have k0 : (1 : Int) ≤ n := by omega
  have k1 : (n : Int) ≤ 20 := by omega
  obtain ⟨C, hC⟩ : ∃ C, (partCells (List.replicate n (0, 0))).toArray = C := ⟨_, rfl⟩
  rw [hC] at hmk
  have HC := Lib.hid hC
  clear hC
  go_enter Tryz.func47, Tryz.ntmps47
  go_wp2_with fail
  go_ret2
  have hp : Tide.At ((w.alloc (.cells C 157)).alloc (.cells #[.slice (some ⟨w.heap.size, 0, none⟩) n n] 145)) w.heap.size 157 C := (Tide.At.made w _ C).alloc _
  have hg : Tide.At ((w.alloc (.cells C 157)).alloc (.cells #[.slice (some ⟨w.heap.size, 0, none⟩) n n] 145)) (w.heap.size + 1) 145 #[.slice (some ⟨w.heap.size, 0, none⟩) n n] := by
    have := Tide.At.made (w.alloc (.cells C 157)) 145 #[.slice (some ⟨w.heap.size, 0, none⟩) n n]
    rw [World.size_alloc] at this
    exact this
  exact ⟨w.heap.size + 1, w.heap.size, rfl, ⟨by rw [List.length_replicate]; exact hg, by rw [HC.out]; exact hp, by simpa using h1⟩, by omega, by omega, ((Below.refl _ _).alloc (Nat.le_refl _) _).alloc (by simp) _⟩

theorem topNew_no (n : Int) (h : n < 1 ∨ 20 < n) (w : World) :
    Calls Tryz.prog 47 #[.int .i64 n] w fun e w' => e = .returned (.tuple #[.pointer none, .int .i64 1]) ∧ w = w' := by
  by_cases h0 : n < 1
  · clear h
    go_enter Tryz.func47, Tryz.ntmps47
    go_wp2
    go_ret2
    exact ⟨rfl, rfl⟩
  · have h1 : 20 < n := by omega
    have h2 : 1 ≤ n := by omega
    clear h h0
    go_enter Tryz.func47, Tryz.ntmps47
    go_wp2
    go_ret2
    exact ⟨rfl, rfl⟩
end Go.Proofs.YtlfaogkdghnmcaaGreat


namespace Go.Proofs.YtlfaogkdghnmcaaGreat
open Go.RowKit
set_option linter.unusedVariables false

/-! what Make and Take do to the list -/
def entry (l : List (Int × Int)) (i : Int) : Option (Int × Int) := if 0 ≤ i then l[i.toNat]? else none
def makeErr (l : List (Int × Int)) (i n : Int) : Int := if (entry l i).isNone then 4 else if n < 1 ∨ 100000 < n then 1 else 0
def makeLst (l : List (Int × Int)) (i n : Int) : List (Int × Int) := if n < 1 ∨ 100000 < n then l else match entry l i with | none => l | some (e, o) => l.set i.toNat (Tide.clip (e + n), o)
def takeErr (l : List (Int × Int)) (i n : Int) : Int := match entry l i with | none => 4 | some (e, o) => if n < o ∨ e < n then 1 else 0
def takeLst (l : List (Int × Int)) (i n : Int) : List (Int × Int) := match entry l i with | none => l | some (e, o) => if n < o ∨ e < n then l else l.set i.toNat (e, n)
theorem makeLst_length (l : List (Int × Int)) (i n : Int) : (makeLst l i n).length = l.length := by unfold makeLst; split; rfl; split <;> simp
theorem takeLst_length (l : List (Int × Int)) (i n : Int) : (takeLst l i n).length = l.length := by unfold takeLst; split; rfl; split <;> simp
theorem entry_some {l : List (Int × Int)} {i : Int} {e o : Int} (h : entry l i = some (e, o)) : 0 ≤ i ∧ l[i.toNat]? = some (e, o) := by
  unfold entry at h; split at h
  · exact ⟨by assumption, h⟩
  · cases h
theorem entry_none {l : List (Int × Int)} {i : Int} (h : entry l i = none) : i < 0 ∨ (l.length : Int) ≤ i := by
  unfold entry at h; split at h
  · rename_i h0
    have : l.length ≤ i.toNat := by simpa using h
    omega
  · omega
theorem Small.makes {l : List (Int × Int)} (h : Small l) (i n : Int) : Small (makeLst l i n) := by
  unfold makeLst; split
  · exact h
  · split
    · exact h
    · rename_i hn _ e o he
      obtain ⟨h0, hx⟩ := entry_some he
      have hm := h _ (List.mem_of_getElem? hx)
      simp only at hm
      intro q hq
      rcases List.mem_or_eq_of_mem_set hq with h1 | rfl
      · exact h q h1
      · have := Tide.clip_spec (e + n)
        simp only
        omega
theorem Small.takes {l : List (Int × Int)} (h : Small l) (i n : Int) : Small (takeLst l i n) := by
  unfold takeLst; split
  · exact h
  · rename_i e o he
    split
    · exact h
    · obtain ⟨h0, hx⟩ := entry_some he
      have hm := h _ (List.mem_of_getElem? hx)
      simp only at hm
      intro q hq
      rcases List.mem_or_eq_of_mem_set hq with h1 | rfl
      · exact h q h1
      · simp only; omega
theorem addc_eq {e n : Int} (h0 : 0 ≤ e) (h1 : e ≤ 1000000000000000) (h2 : 1 ≤ n) (h3 : n ≤ 100000) : Tide.addc e n = Tide.clip (e + n) := by
  unfold Tide.addc; rw [Tide.clip_id (by omega) h1, Tide.clip_id (n := n) (by omega) (by omega)]

theorem topMake_any (g p : Nat) (l : List (Int × Int)) (i n : Int) (w : World) (ht : TopicAt w g p l) (hs : Small l) :
    Calls Tryz.prog 52 #[.pointer (some ⟨g, 0, none⟩), .int .i64 i, .int .i64 n] w fun en w' => en = .returned (.int .i64 (makeErr l i n)) ∧ TopicAt w' g p (makeLst l i n) ∧ Tide.Chg (· = p) w w' := by
  cases he : entry l i with
  | none =>
    have e1 : makeErr l i n = 4 := by unfold makeErr; rw [he]; rfl
    have e2 : makeLst l i n = l := by unfold makeLst; rw [he]; split <;> rfl
    rw [e1, e2]
    exact (topMake_none g p l i n w ht (entry_none he)).mono fun _ _ ⟨a, b⟩ => ⟨a, b ▸ ht, b ▸ Tide.Chg.refl _ _⟩
  | some q =>
    obtain ⟨e, o⟩ := q
    obtain ⟨h0, hx⟩ := entry_some he
    have hlt : i.toNat < l.length := by
      rcases Nat.lt_or_ge i.toNat l.length with h | h
      · exact h
      · rw [List.getElem?_eq_none h] at hx; cases hx
    by_cases hn : n < 1 ∨ 100000 < n
    · have e1 : makeErr l i n = 1 := by unfold makeErr; rw [he]; simp [hn]
      have e2 : makeLst l i n = l := by unfold makeLst; rw [if_pos hn]
      rw [e1, e2]
      exact (topMake_arg g p l i n w ht h0 (by omega) hn).mono fun _ _ ⟨a, b⟩ => ⟨a, b ▸ ht, b ▸ Tide.Chg.refl _ _⟩
    · have e1 : makeErr l i n = 0 := by unfold makeErr; rw [he]; simp [hn]
      have hm := hs _ (List.mem_of_getElem? hx)
      simp only at hm
      have e2 : makeLst l i n = l.set i.toNat (Tide.addc e n, o) := by unfold makeLst; rw [if_neg hn, he, addc_eq (by omega) (by omega) (by omega) (by omega)]
      rw [e1, e2]
      have := topMake_yes g p l i.toNat n e o w ht hx (by omega) (by omega)
      rw [Int.toNat_of_nonneg h0] at this
      exact this
theorem topTake_any (g p : Nat) (l : List (Int × Int)) (i n : Int) (w : World) (ht : TopicAt w g p l) :
    Calls Tryz.prog 53 #[.pointer (some ⟨g, 0, none⟩), .int .i64 i, .int .i64 n] w fun en w' => en = .returned (.int .i64 (takeErr l i n)) ∧ TopicAt w' g p (takeLst l i n) ∧ Tide.Chg (· = p) w w' := by
  cases he : entry l i with
  | none =>
    have e1 : takeErr l i n = 4 := by unfold takeErr; rw [he]
    have e2 : takeLst l i n = l := by unfold takeLst; rw [he]
    rw [e1, e2]
    exact (topTake_none g p l i n w ht (entry_none he)).mono fun _ _ ⟨a, b⟩ => ⟨a, b ▸ ht, b ▸ Tide.Chg.refl _ _⟩
  | some x =>
    obtain ⟨e, o⟩ := x
    obtain ⟨h0, hx⟩ := entry_some he
    by_cases hn : n < o ∨ e < n
    · have e1 : takeErr l i n = 1 := by unfold takeErr; rw [he]; simp [hn]
      have e2 : takeLst l i n = l := by unfold takeLst; rw [he]; simp [hn]
      rw [e1, e2]
      have := topTake_arg g p l i.toNat n e o w ht hx hn
      rw [Int.toNat_of_nonneg h0] at this
      exact this.mono fun _ _ ⟨a, b⟩ => ⟨a, b ▸ ht, b ▸ Tide.Chg.refl _ _⟩
    · have e1 : takeErr l i n = 0 := by unfold takeErr; rw [he]; simp [hn]
      have e2 : takeLst l i n = l.set i.toNat (e, n) := by unfold takeLst; rw [he]; simp [hn]
      rw [e1, e2]
      have := topTake_yes g p l i.toNat n e o w ht hx (by omega) (by omega)
      rw [Int.toNat_of_nonneg h0] at this
      exact this
end Go.Proofs.YtlfaogkdghnmcaaGreat
