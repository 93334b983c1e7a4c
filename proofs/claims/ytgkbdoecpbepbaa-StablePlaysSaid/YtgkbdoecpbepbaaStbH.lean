/- The plain laws of StableWindow and StablePace. -/
import Derived.Test.YtgkbdoecpbepbaaStbA
namespace Tide
theorem take_desc {t : Int} : ∀ {r : List Mark}, r.Pairwise (fun a b => b.1 ≤ a.1) → r.takeWhile (fun m => decide (t < m.1)) = r.filter (fun m => decide (t < m.1))
  | [], _ => rfl
  | a :: r, h => by
    obtain ⟨h1, h2⟩ := List.pairwise_cons.1 h
    by_cases c : t < a.1
    · rw [List.takeWhile_cons, List.filter_cons, if_pos (by simpa using c), if_pos (by simpa using c), take_desc h2]
    · rw [List.takeWhile_cons, List.filter_cons, if_neg (by simpa using c), if_neg (by simpa using c)]
      symm
      rw [List.filter_eq_nil_iff]
      intro m hm
      have := h1 m hm
      simp; omega
theorem behind_filter {l : List Mark} (h : l.Pairwise (fun a b => a.1 ≤ b.1)) (t : Int) : behindL l t = l.filter (fun m => decide (t < m.1)) := by
  unfold behindL
  rw [take_desc (by rw [List.pairwise_reverse]; exact h), List.filter_reverse, List.reverse_reverse]
theorem minAll_le : ∀ (l : List Mark) (x : Int), minAll l x ≤ x ∧ ∀ m ∈ l, minAll l x ≤ m.2
  | [], x => ⟨Int.le_refl _, by simp⟩
  | a :: l, x => by
    obtain ⟨h1, h2⟩ := minAll_le l (min x a.2)
    have e : minAll (a :: l) x = minAll l (min x a.2) := rfl
    rw [e]
    refine ⟨by omega, fun m hm => ?_⟩
    rcases List.mem_cons.1 hm with c | c
    · rw [c]; omega
    · exact h2 m c
theorem maxAll_ge : ∀ (l : List Mark) (x : Int), x ≤ maxAll l x ∧ ∀ m ∈ l, m.2 ≤ maxAll l x
  | [], x => ⟨Int.le_refl _, by simp⟩
  | a :: l, x => by
    obtain ⟨h1, h2⟩ := maxAll_ge l (max x a.2)
    have e : maxAll (a :: l) x = maxAll l (max x a.2) := rfl
    rw [e]
    refine ⟨by omega, fun m hm => ?_⟩
    rcases List.mem_cons.1 hm with c | c
    · rw [c]; omega
    · exact h2 m c
/-- windows of one length, no paces -/
def Windowed (w : Int) (s : Stb) : Prop := s.up.win = w ∧ s.down.win = w ∧ s.up.limited = false ∧ s.down.limited = false
theorem windowed_next {w : Int} {s : Stb} {now have0 want : Int} (h : Windowed w s) : Windowed w (settleS s now have0 want) := by
  unfold settleS
  split
  · split <;> exact h
  · exact h
theorem seen_wanted {s : Stb} {now have0 want : Int} (hk : settleOk s now have0 want = true) : (settleS s now have0 want).wanted = s.wanted ++ [(now, want)] := by
  unfold settleS
  rw [if_pos hk]
  split <;> rfl
theorem seen_not {s : Stb} {now have0 want : Int} (hk : settleOk s now have0 want = false) : settleS s now have0 want = s := by
  unfold settleS
  rw [if_neg (by rw [hk]; simp)]
/-- grown in a period, told of those who grew alone -/
def grownL (t : Int) (l : List Mark) (x : Int) : Int := l.foldl (fun a m => if t < m.1 then a + m.2 else a) x
def grewB (m : Mark) : Bool := decide (0 < m.2)
theorem grown_same (t : Int) : ∀ (l : List Mark) (x : Int), sumUp (l.filter (fun m => decide (t < m.1))) x = grownL t (l.filter grewB) x
  | [], x => rfl
  | a :: l, x => by
    by_cases c : t < a.1
    · by_cases d : 0 < a.2
      · rw [List.filter_cons, if_pos (by simpa using c), List.filter_cons, if_pos (by unfold grewB; simpa using d)]
        have e1 : sumUp (a :: l.filter (fun m => decide (t < m.1))) x = sumUp (l.filter (fun m => decide (t < m.1))) (x + max a.2 0) := rfl
        have e2 : grownL t (a :: l.filter grewB) x = grownL t (l.filter grewB) (if t < a.1 then x + a.2 else x) := rfl
        rw [e1, e2, if_pos c, show max a.2 0 = a.2 by omega]
        exact grown_same t l _
      · rw [List.filter_cons, if_pos (by simpa using c), List.filter_cons, if_neg (by unfold grewB; simpa using d)]
        have e1 : sumUp (a :: l.filter (fun m => decide (t < m.1))) x = sumUp (l.filter (fun m => decide (t < m.1))) (x + max a.2 0) := rfl
        rw [e1, show x + max a.2 0 = x by omega]
        exact grown_same t l _
    · by_cases d : 0 < a.2
      · rw [List.filter_cons, if_neg (by simpa using c), List.filter_cons, if_pos (by unfold grewB; simpa using d)]
        have e2 : grownL t (a :: l.filter grewB) x = grownL t (l.filter grewB) (if t < a.1 then x + a.2 else x) := rfl
        rw [e2, if_neg c]
        exact grown_same t l _
      · rw [List.filter_cons, if_neg (by simpa using c), List.filter_cons, if_neg (by unfold grewB; simpa using d)]
        exact grown_same t l _
theorem grown_bd {t : Int} : ∀ (l : List Mark) (x : Int), (∀ m ∈ l, 0 ≤ m.2 ∧ m.2 ≤ 50) → x ≤ grownL t l x ∧ grownL t l x ≤ x + 50 * l.length
  | [], x, _ => ⟨by simp [grownL], by simp [grownL]⟩
  | a :: l, x, h => by
    have := h a (by simp)
    have ih := grown_bd (t := t) l (if t < a.1 then x + a.2 else x) (fun m hm => h m (by simp [hm]))
    have e : grownL t (a :: l) x = grownL t l (if t < a.1 then x + a.2 else x) := rfl
    rw [e, List.length_cons]
    split at ih <;> split <;> omega
theorem grown_snoc {t : Int} {l : List Mark} {k : Nat} {m : Mark} {x : Int} (h : l[k]? = some m) : grownL t (l.take (k + 1)) x = if t < m.1 then grownL t (l.take k) x + m.2 else grownL t (l.take k) x := fold_snoc h
end Tide
namespace Go.Proofs.Ytgkbdoecpbepbaa
open Go.RowKit
set_option linter.unusedVariables false
theorem window_says {s : Tide.Stb} {j : Nat} {w now have0 want : Int} (h : s.ok j) (hw : Tide.Windowed w s) (hk : Tide.settleOk s now have0 want = true) : ∀ m ∈ s.wanted, now - w < m.1 → ¬ (Tide.settleN s now have0 want < have0 ∧ Tide.settleN s now have0 want < m.2) ∧ ¬ (have0 < Tide.settleN s now have0 want ∧ m.2 < Tide.settleN s now have0 want) := by
  obtain ⟨f1, f2, f3, f4⟩ := hw
  intro m hm ht
  have h1 := Stb.ok_seen h hk
  have e : Tide.settleN s now have0 want = Tide.settleN0 (s.seen now want) now have0 want := by unfold Tide.settleN; rw [hk]; rfl
  have hmem : m ∈ (s.seen now want).wanted := List.mem_append_left _ hm
  rw [e]
  unfold Tide.settleN0
  split
  · have hb : m ∈ Tide.behindL (s.seen now want).wanted (now - (s.seen now want).up.win) := by
      rw [Tide.behind_filter h1.wsort, List.mem_filter]
      exact ⟨hmem, by show decide (now - s.up.win < m.1) = true; rw [f1]; simpa using ht⟩
    have := (Tide.minAll_le _ want).2 m hb
    unfold Tide.moreN
    rw [show (s.seen now want).up.limited = false from f3]
    simp only [Bool.false_eq_true, if_false]
    omega
  · split
    · have hb : m ∈ Tide.behindL (s.seen now want).wanted (now - (s.seen now want).down.win) := by
        rw [Tide.behind_filter h1.wsort, List.mem_filter]
        exact ⟨hmem, by show decide (now - s.down.win < m.1) = true; rw [f2]; simpa using ht⟩
      have := (Tide.maxAll_ge _ want).2 m hb
      unfold Tide.fewerN
      rw [show (s.seen now want).down.limited = false from f4]
      simp only [Bool.false_eq_true, if_false]
      omega
    · omega
/-- a pace of p pods a period k to more; none to fewer; no windows -/
def Paced (p k : Int) (s : Tide.Stb) : Prop := s.up = ⟨0, p, 0, k⟩ ∧ s.down = ⟨0, 0, 0, 0⟩
theorem paced_next {p k : Int} {s : Tide.Stb} {now have0 want : Int} (h : Paced p k s) : Paced p k (Tide.settleS s now have0 want) := by
  unfold Tide.settleS
  split
  · split <;> exact h
  · exact h
theorem pace_says {s : Tide.Stb} {j : Nat} {p k now have0 want : Int} (h : s.ok j) (hp : Paced p k s) (p1 : 0 < p) (k1 : 0 < k) (hk : Tide.settleOk s now have0 want = true) (hn : have0 < Tide.settleN s now have0 want) :
    ¬ (p < Tide.grownL (now - k) (s.moved.filter Tide.grewB) (Tide.settleN s now have0 want - have0) ∧ p < Tide.settleN s now have0 want) := by
  obtain ⟨f1, f2⟩ := hp
  have h1 := Stb.ok_seen h hk
  have e : Tide.settleN s now have0 want = Tide.settleN0 (s.seen now want) now have0 want := by unfold Tide.settleN; rw [hk]; rfl
  have shift : ∀ (l : List Tide.Mark) (x : Int), Tide.grownL (now - k) l x = Tide.grownL (now - k) l 0 + x := by
    intro l
    induction l with
    | nil => intro x; simp [Tide.grownL]
    | cons a l ih =>
      intro x
      have e1 : ∀ y, Tide.grownL (now - k) (a :: l) y = Tide.grownL (now - k) l (if now - k < a.1 then y + a.2 else y) := fun y => rfl
      rw [e1, e1, ih, ih (if now - k < a.1 then 0 + a.2 else 0)]
      split <;> omega
  have hb : Tide.baseUp (s.seen now want) now have0 = max (have0 - Tide.grownL (now - k) (s.moved.filter Tide.grewB) 0) 0 := by
    unfold Tide.baseUp
    rw [Tide.behind_filter h1.msort, Tide.grown_same]
    show max (have0 - Tide.grownL (now - s.up.per) (s.moved.filter Tide.grewB) 0) 0 = _
    rw [f1]
  have hl : (s.seen now want).up.limited = true := by
    show s.up.limited = true
    rw [f1]; unfold Tide.Pace.limited; simp [p1, k1]
  have hc : Tide.ceilc (Tide.baseUp (s.seen now want) now have0 * (s.seen now want).up.pct) 100 = 0 := by
    show Tide.ceilc (_ * s.up.pct) 100 = 0
    rw [f1]; simp only [Int.mul_zero]; decide +kernel
  have hpods : (s.seen now want).up.pods = p := by show s.up.pods = p; rw [f1]
  rw [e] at hn ⊢
  rw [shift]
  unfold Tide.settleN0 at hn ⊢
  split at hn
  · rename_i hlt
    rw [if_pos hlt]
    unfold Tide.moreN at hn ⊢
    simp only [hl, if_true, hb, hpods] at hn ⊢
    rw [hb] at hc
    rw [hc] at hn ⊢
    omega
  · split at hn
    · rename_i hlt
      exfalso
      unfold Tide.fewerN at hn
      simp only at hn
      omega
    · omega
theorem settle_n0 {s : Tide.Stb} {now have0 want : Int} (hk : Tide.settleOk s now have0 want = true) : Tide.settleN s now have0 want = Tide.settleN0 (s.seen now want) now have0 want := by unfold Tide.settleN; rw [hk]; rfl
/-- who grew is told behind -/
theorem pace_next {s : Tide.Stb} {now have0 want : Int} (hk : Tide.settleOk s now have0 want = true) : (Tide.settleS s now have0 want).moved.filter Tide.grewB = s.moved.filter Tide.grewB ++ (if have0 < Tide.settleN s now have0 want then [(now, Tide.settleN s now have0 want - have0)] else []) ∧ (Tide.settleS s now have0 want).last = now := by
  have e := settle_n0 hk
  unfold Tide.settleS
  rw [if_pos hk, ← e]
  split
  · rename_i he
    rw [if_neg (by omega), List.append_nil]
    exact ⟨rfl, rfl⟩
  · rename_i he
    refine ⟨?_, rfl⟩
    show (s.moved ++ [(now, _)]).filter _ = _
    rw [List.filter_append]
    by_cases c : have0 < Tide.settleN s now have0 want
    · rw [if_pos c, List.filter_cons, if_pos (by unfold Tide.grewB; simp; omega)]; rfl
    · rw [if_neg c, List.filter_cons, if_neg (by unfold Tide.grewB; simp; omega)]; rfl
end Go.Proofs.Ytgkbdoecpbepbaa
