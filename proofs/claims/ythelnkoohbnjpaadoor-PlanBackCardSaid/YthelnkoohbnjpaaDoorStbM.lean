/- What a Stable does, as plain functions. -/
import Derived.Test.YthelnkoohbnjpaaDoorZBase
import Derived.Test.YthelnkoohbnjpaaDoorZNum
set_option linter.unusedVariables false
set_option linter.unusedSimpArgs false
namespace Tide
open Go
structure Pace where
  win : Int
  pods : Int
  pct : Int
  per : Int
def clipT (n : Int) : Int := min (max n 0) 100000
def Pace.fix (p : Pace) : Pace := ⟨clipT p.win, clipT p.pods, clipT p.pct, clipT p.per⟩
def Pace.ok (p : Pace) : Prop := (0 ≤ p.win ∧ p.win ≤ 100000) ∧ (0 ≤ p.pods ∧ p.pods ≤ 100000) ∧ (0 ≤ p.pct ∧ p.pct ≤ 100000) ∧ (0 ≤ p.per ∧ p.per ≤ 100000)
theorem clipT_bd (n : Int) : 0 ≤ clipT n ∧ clipT n ≤ 100000 := by unfold clipT; omega
theorem Pace.fix_ok (p : Pace) : p.fix.ok := ⟨clipT_bd _, clipT_bd _, clipT_bd _, clipT_bd _⟩
def Pace.limited (p : Pace) : Bool := decide (0 < p.per) && (decide (0 < p.pods) || decide (0 < p.pct))
abbrev Mark := Int × Int
def encM (m : Mark) : List Value := [.int .i64 m.1, .int .i64 m.2]
theorem encM_length (m : Mark) : (encM m).length = 2 := rfl
/-- the marks later than a time -/
def behindL (l : List Mark) (at0 : Int) : List Mark := (l.reverse.takeWhile (fun m => decide (at0 < m.1))).reverse
theorem behind_eq {l : List Mark} {at0 : Int} {i : Nat} (hi : i ≤ l.length) (h : ∀ m ∈ l.drop i, at0 < m.1) (h0 : i = 0 ∨ ∃ m, l[i - 1]? = some m ∧ m.1 ≤ at0) : behindL l at0 = l.drop i := by
  have e : l.reverse = (l.drop i).reverse ++ (l.take i).reverse := by rw [← List.reverse_append, List.take_append_drop]
  unfold behindL
  rw [e, List.takeWhile_append_of_pos (fun m hm => by simpa using h m (List.mem_reverse.1 hm))]
  have : (l.take i).reverse.takeWhile (fun m => decide (at0 < m.1)) = [] := by
    rcases h0 with h0 | ⟨m, hm, hle⟩
    · subst h0; simp
    · have hp : 0 < i := by
        rcases Nat.eq_zero_or_pos i with hz | hz
        · exfalso; subst hz
          have := h m (by simpa using List.mem_of_getElem? hm)
          omega
        · exact hz
      have : l.take i = l.take (i - 1) ++ [m] := by
        have := take_of_get hm
        rwa [show i - 1 + 1 = i by omega] at this
      have hd : decide (at0 < m.1) = false := by simp; omega
      rw [this, List.reverse_append]
      simp only [List.reverse_cons, List.reverse_nil, List.nil_append, List.cons_append, List.takeWhile_cons, hd]
      rfl
  rw [this, List.append_nil, List.reverse_reverse]
theorem behindL_mem {l : List Mark} {at0 : Int} : ∀ m ∈ behindL l at0, m ∈ l := fun m hm => by
  unfold behindL at hm
  exact List.mem_reverse.1 ((List.takeWhile_sublist _).subset (List.mem_reverse.1 hm))
theorem behindL_length (l : List Mark) (at0 : Int) : (behindL l at0).length ≤ l.length := by
  unfold behindL
  rw [List.length_reverse]
  exact Nat.le_trans (List.takeWhile_sublist _).length_le (by rw [List.length_reverse]; exact Nat.le_refl _)
theorem ceilc_bd (a : Int) : -1000000000000000 ≤ ceilc a 100 ∧ ceilc a 100 ≤ 1000000000000000 := by
  have : -1000000000000000 ≤ clip a ∧ clip a ≤ 1000000000000000 := by unfold clip; split <;> (try split) <;> omega
  have e : clip 100 = 100 := by decide
  unfold ceilc; rw [e]; omega
theorem sharec_bd (a m : Int) : -1000000000000000 ≤ sharec a m ∧ sharec a m ≤ 1000000000000000 := by
  unfold sharec; unfold clip; split <;> (try split) <;> omega
theorem mul_bd {a b x y : Int} (h0 : 0 ≤ a) (h1 : a ≤ x) (h2 : 0 ≤ b) (h3 : b ≤ y) : 0 ≤ a * b ∧ a * b ≤ x * y := ⟨Int.mul_nonneg h0 h2, Int.mul_le_mul h1 h3 h2 (by omega)⟩
def minAll (l : List Mark) (x : Int) : Int := l.foldl (fun a m => min a m.2) x
def maxAll (l : List Mark) (x : Int) : Int := l.foldl (fun a m => max a m.2) x
def sumUp (l : List Mark) (x : Int) : Int := l.foldl (fun a m => a + max m.2 0) x
def sumDown (l : List Mark) (x : Int) : Int := l.foldl (fun a m => a + max (-m.2) 0) x
theorem fold_snoc {α β : Type} {f : β → α → β} {l : List α} {k : Nat} {m : α} {x : β} (h : l[k]? = some m) : (l.take (k + 1)).foldl f x = f ((l.take k).foldl f x) m := by rw [take_of_get h, List.foldl_append]; rfl
theorem minAll_bd : ∀ (l : List Mark) (x : Int), 0 ≤ x → x ≤ 50 → (∀ m ∈ l, 0 ≤ m.2 ∧ m.2 ≤ 50) → 0 ≤ minAll l x ∧ minAll l x ≤ 50
  | [], x, h0, h1, _ => ⟨h0, h1⟩
  | a :: l, x, h0, h1, h => by
    have := h a (by simp)
    exact minAll_bd l (min x a.2) (by omega) (by omega) (fun m hm => h m (by simp [hm]))
theorem maxAll_bd : ∀ (l : List Mark) (x : Int), 0 ≤ x → x ≤ 50 → (∀ m ∈ l, 0 ≤ m.2 ∧ m.2 ≤ 50) → 0 ≤ maxAll l x ∧ maxAll l x ≤ 50
  | [], x, h0, h1, _ => ⟨h0, h1⟩
  | a :: l, x, h0, h1, h => by
    have := h a (by simp)
    exact maxAll_bd l (max x a.2) (by omega) (by omega) (fun m hm => h m (by simp [hm]))
theorem sumUp_bd : ∀ (l : List Mark) (x : Int), (∀ m ∈ l, -50 ≤ m.2 ∧ m.2 ≤ 50) → x ≤ sumUp l x ∧ sumUp l x ≤ x + 50 * l.length
  | [], x, _ => ⟨by simp [sumUp], by simp [sumUp]⟩
  | a :: l, x, h => by
    have := h a (by simp)
    have ih := sumUp_bd l (x + max a.2 0) (fun m hm => h m (by simp [hm]))
    have e : sumUp (a :: l) x = sumUp l (x + max a.2 0) := rfl
    rw [e, List.length_cons]; omega
theorem sumDown_bd : ∀ (l : List Mark) (x : Int), (∀ m ∈ l, -50 ≤ m.2 ∧ m.2 ≤ 50) → x ≤ sumDown l x ∧ sumDown l x ≤ x + 50 * l.length
  | [], x, _ => ⟨by simp [sumDown], by simp [sumDown]⟩
  | a :: l, x, h => by
    have := h a (by simp)
    have ih := sumDown_bd l (x + max (-a.2) 0) (fun m hm => h m (by simp [hm]))
    have e : sumDown (a :: l) x = sumDown l (x + max (-a.2) 0) := rfl
    rw [e, List.length_cons]; omega
/-- a Stable as plain data -/
structure Stb where
  up : Pace
  down : Pace
  last : Int
  wanted : List Mark
  moved : List Mark
structure Stb.ok (s : Stb) (j : Nat) : Prop where
  up : s.up.ok
  down : s.down.ok
  last0 : 0 ≤ s.last
  last1 : s.last ≤ 1099511627776
  wan : ∀ m ∈ s.wanted, (0 ≤ m.2 ∧ m.2 ≤ 50) ∧ (0 ≤ m.1 ∧ m.1 ≤ s.last)
  mov : ∀ m ∈ s.moved, (-50 ≤ m.2 ∧ m.2 ≤ 50) ∧ (0 ≤ m.1 ∧ m.1 ≤ s.last)
  wsort : s.wanted.Pairwise (fun a b => a.1 ≤ b.1)
  msort : s.moved.Pairwise (fun a b => a.1 ≤ b.1)
  wlen : s.wanted.length ≤ j
  mlen : s.moved.length ≤ j
def baseUp (s : Stb) (now have0 : Int) : Int := max (have0 - sumUp (behindL s.moved (now - s.up.per)) 0) 0
def moreN (s : Stb) (now have0 want : Int) : Int :=
  let w1 := minAll (behindL s.wanted (now - s.up.win)) want
  max (if s.up.limited then min w1 (baseUp s now have0 + max s.up.pods (ceilc (baseUp s now have0 * s.up.pct) 100)) else w1) have0
def baseDown (s : Stb) (now have0 : Int) : Int := sumDown (behindL s.moved (now - s.down.per)) have0
def fewerN (s : Stb) (now have0 want : Int) : Int :=
  let w1 := maxAll (behindL s.wanted (now - s.down.win)) want
  min (if s.down.limited then max w1 (baseDown s now have0 - max s.down.pods (sharec (baseDown s now have0) (10 * s.down.pct))) else w1) have0
def settleOk (s : Stb) (now have0 want : Int) : Bool := decide (s.last ≤ now) && decide (now ≤ 1099511627776) && (decide (0 ≤ have0) && decide (have0 ≤ 50)) && (decide (0 ≤ want) && decide (want ≤ 50))
def Stb.seen (s : Stb) (now want : Int) : Stb := { s with last := now, wanted := s.wanted ++ [(now, want)] }
def settleN0 (s : Stb) (now have0 want : Int) : Int := if have0 < want then moreN s now have0 want else if want < have0 then fewerN s now have0 want else have0
def settleN (s : Stb) (now have0 want : Int) : Int := if settleOk s now have0 want then settleN0 (s.seen now want) now have0 want else 0
def settleE (s : Stb) (now have0 want : Int) : Int := if settleOk s now have0 want then 0 else 1
def Stb.went (s : Stb) (now n : Int) : Stb := { s with moved := s.moved ++ [(now, n)] }
def settleS (s : Stb) (now have0 want : Int) : Stb :=
  if settleOk s now have0 want then (if settleN0 (s.seen now want) now have0 want = have0 then s.seen now want else (s.seen now want).went now (settleN0 (s.seen now want) now have0 want - have0)) else s
end Tide
