/- The walks of StableBetween and StableFree. The walk of StableFree. The plain laws of StableWindow and StablePace. The contract of the reference's NewCalm. -/
import Derived.Test.YtcnoapogeohmkaaZStb
import Derived.Deep.LoopGhost
import Derived.Deep.RegionHeld3

set_option linter.unusedVariables false
set_option linter.unusedSimpArgs false
namespace Go.Proofs.Ytcnoapogeohmkaa
open Go.RowKit
set_option linter.unusedVariables false
theorem wish_row {w wr : World} {A : Option Addr} {l : List (List Int)} {k : Nat} (hA : RowsAt w 3 A l) (hr : ∀ row ∈ l, row.length = 3 ∧ ∀ x ∈ row, -9223372036854775808 ≤ x ∧ x ≤ 9223372036854775807) (hb : Below w.heap.size w wr) (hk : k < l.length) :
    ∃ b off x y z, A = some ⟨b, off, none⟩ ∧ wr.cell? ⟨b, off + k * 3, none⟩ = some (.int .i64 x) ∧ wr.cell? ⟨b, off + k * 3 + 1, none⟩ = some (.int .i64 y) ∧ wr.cell? ⟨b, off + k * 3 + 2, none⟩ = some (.int .i64 z) := by
  obtain ⟨b, off, e, hlt, hc⟩ := hA (by omega)
  have hrow : l[k]? = some l[k] := List.getElem?_eq_getElem hk
  have hlen := (hr _ (List.getElem_mem hk)).1
  obtain ⟨x, y, z, hxyz⟩ : ∃ x y z, l[k] = [x, y, z] := by
    match l[k], hlen with
    | [x, y, z], _ => exact ⟨x, y, z, rfl⟩
  rw [hxyz] at hrow
  exact ⟨b, off, x, y, z, e, (hb.cell (p := ⟨b, off + k * 3, none⟩) hlt).trans (hc k _ 0 x hrow rfl), (hb.cell (p := ⟨b, off + k * 3 + 1, none⟩) hlt).trans (hc k _ 1 y hrow rfl), (hb.cell (p := ⟨b, off + k * 3 + 2, none⟩) hlt).trans (hc k _ 2 z hrow rfl)⟩
/-- a Stable at a loop's head, behind j wishes -/
def StbRun (T TM : TypeId) (w0 w : World) (g : Nat) (j : Nat) : Prop := ∃ S s vw vm, StbAt T TM S w g s vw vm ∧ Solo w0 w S ∧ s.ok j
theorem between {s : Tide.Stb} {j : Nat} {now have0 want : Int} (h : s.ok j) (hk : Tide.settleOk s now have0 want = true) : min have0 want ≤ Tide.settleN s now have0 want ∧ Tide.settleN s now have0 want ≤ max have0 want := by
  have e : Tide.settleN s now have0 want = Tide.settleN0 (s.seen now want) now have0 want := by unfold Tide.settleN; rw [hk]; rfl
  rw [e]
  have h1 : ∀ (l : List Tide.Mark) (x : Int), Tide.minAll l x ≤ x := fun l => by
    induction l with
    | nil => intro x; exact Int.le_refl _
    | cons a l ih => intro x; exact Int.le_trans (ih (min x a.2)) (by omega)
  have h2 : ∀ (l : List Tide.Mark) (x : Int), x ≤ Tide.maxAll l x := fun l => by
    induction l with
    | nil => intro x; exact Int.le_refl _
    | cons a l ih => intro x; exact Int.le_trans (show x ≤ max x a.2 by omega) (ih (max x a.2))
  unfold Tide.settleN0
  split
  · have := h1 (Tide.behindL (s.seen now want).wanted (now - (s.seen now want).up.win)) want
    unfold Tide.moreN
    simp only
    split <;> omega
  · split
    · have := h2 (Tide.behindL (s.seen now want).wanted (now - (s.seen now want).down.win)) want
      unfold Tide.fewerN
      simp only
      split <;> omega
    · omega

end Go.Proofs.Ytcnoapogeohmkaa


namespace Go.Proofs.Ytcnoapogeohmkaa
open Go.RowKit
set_option linter.unusedVariables false
def FreeRun (T TM : TypeId) (w0 w : World) (g : Nat) (j : Nat) : Prop := ∃ S s vw vm, StbAt T TM S w g s vw vm ∧ Solo w0 w S ∧ s.ok j ∧ Free s
end Go.Proofs.Ytcnoapogeohmkaa


namespace Tide
theorem take_desc {t : Int} : ∀ {r : List Mark}, r.Pairwise (fun a b => b.1 ≤ a.1) → r.takeWhile (fun m => decide (t < m.1)) = r.filter (fun m => decide (t < m.1))
  | [], _ => rfl
  | a :: r, h => by
    obtain ⟨h1, h2⟩ := List.pairwise_cons.1 h
    by_cases c : t < a.1
    · rw [List.takeWhile_cons, List.filter_cons, if_pos (by simpa using c), if_pos (by simpa using c), take_desc h2]
    · rw [List.takeWhile_cons, List.filter_cons, if_neg (by simpa using c), if_neg (by simpa using c)]
      symm
      rw [List.filter_eq_nil_iff]
      intro m hm
      have := h1 m hm
      simp; omega
theorem behind_filter {l : List Mark} (h : l.Pairwise (fun a b => a.1 ≤ b.1)) (t : Int) : behindL l t = l.filter (fun m => decide (t < m.1)) := by
  unfold behindL
  rw [take_desc (by rw [List.pairwise_reverse]; exact h), List.filter_reverse, List.reverse_reverse]
theorem minAll_le : ∀ (l : List Mark) (x : Int), minAll l x ≤ x ∧ ∀ m ∈ l, minAll l x ≤ m.2
  | [], x => ⟨Int.le_refl _, by simp⟩
  | a :: l, x => by
    obtain ⟨h1, h2⟩ := minAll_le l (min x a.2)
    have e : minAll (a :: l) x = minAll l (min x a.2) := rfl
    rw [e]
    refine ⟨by omega, fun m hm => ?_⟩
    rcases List.mem_cons.1 hm with c | c
    · rw [c]; omega
    · exact h2 m c
theorem maxAll_ge : ∀ (l : List Mark) (x : Int), x ≤ maxAll l x ∧ ∀ m ∈ l, m.2 ≤ maxAll l x
  | [], x => ⟨Int.le_refl _, by simp⟩
  | a :: l, x => by
    obtain ⟨h1, h2⟩ := maxAll_ge l (max x a.2)
    have e : maxAll (a :: l) x = maxAll l (max x a.2) := rfl
    rw [e]
    refine ⟨by omega, fun m hm => ?_⟩
    rcases List.mem_cons.1 hm with c | c
    · rw [c]; omega
    · exact h2 m c
/-- windows of one length, no paces -/
def Windowed (w : Int) (s : Stb) : Prop := s.up.win = w ∧ s.down.win = w ∧ s.up.limited = false ∧ s.down.limited = false
theorem windowed_next {w : Int} {s : Stb} {now have0 want : Int} (h : Windowed w s) : Windowed w (settleS s now have0 want) := by
  unfold settleS
  split
  · split <;> exact h
  · exact h
theorem seen_wanted {s : Stb} {now have0 want : Int} (hk : settleOk s now have0 want = true) : (settleS s now have0 want).wanted = s.wanted ++ [(now, want)] := by
  unfold settleS
  rw [if_pos hk]
  split <;> rfl
theorem seen_not {s : Stb} {now have0 want : Int} (hk : settleOk s now have0 want = false) : settleS s now have0 want = s := by
  unfold settleS
  rw [if_neg (by rw [hk]; simp)]
/-- grown in a period, told of those who grew alone -/
def grownL (t : Int) (l : List Mark) (x : Int) : Int := l.foldl (fun a m => if t < m.1 then a + m.2 else a) x
def grewB (m : Mark) : Bool := decide (0 < m.2)
theorem grown_same (t : Int) : ∀ (l : List Mark) (x : Int), sumUp (l.filter (fun m => decide (t < m.1))) x = grownL t (l.filter grewB) x
  | [], x => rfl
  | a :: l, x => by
    by_cases c : t < a.1
    · by_cases d : 0 < a.2
      · rw [List.filter_cons, if_pos (by simpa using c), List.filter_cons, if_pos (by unfold grewB; simpa using d)]
        have e1 : sumUp (a :: l.filter (fun m => decide (t < m.1))) x = sumUp (l.filter (fun m => decide (t < m.1))) (x + max a.2 0) := rfl
        have e2 : grownL t (a :: l.filter grewB) x = grownL t (l.filter grewB) (if t < a.1 then x + a.2 else x) := rfl
        rw [e1, e2, if_pos c, show max a.2 0 = a.2 by omega]
        exact grown_same t l _
      · rw [List.filter_cons, if_pos (by simpa using c), List.filter_cons, if_neg (by unfold grewB; simpa using d)]
        have e1 : sumUp (a :: l.filter (fun m => decide (t < m.1))) x = sumUp (l.filter (fun m => decide (t < m.1))) (x + max a.2 0) := rfl
        rw [e1, show x + max a.2 0 = x by omega]
        exact grown_same t l _
    · by_cases d : 0 < a.2
      · rw [List.filter_cons, if_neg (by simpa using c), List.filter_cons, if_pos (by unfold grewB; simpa using d)]
        have e2 : grownL t (a :: l.filter grewB) x = grownL t (l.filter grewB) (if t < a.1 then x + a.2 else x) := rfl
        rw [e2, if_neg c]
        exact grown_same t l _
      · rw [List.filter_cons, if_neg (by simpa using c), List.filter_cons, if_neg (by unfold grewB; simpa using d)]
        exact grown_same t l _
theorem grown_bd {t : Int} : ∀ (l : List Mark) (x : Int), (∀ m ∈ l, 0 ≤ m.2 ∧ m.2 ≤ 50) → x ≤ grownL t l x ∧ grownL t l x ≤ x + 50 * l.length
  | [], x, _ => ⟨by simp [grownL], by simp [grownL]⟩
  | a :: l, x, h => by
    have := h a (by simp)
    have ih := grown_bd (t := t) l (if t < a.1 then x + a.2 else x) (fun m hm => h m (by simp [hm]))
    have e : grownL t (a :: l) x = grownL t l (if t < a.1 then x + a.2 else x) := rfl
    rw [e, List.length_cons]
    split at ih <;> split <;> omega
theorem grown_snoc {t : Int} {l : List Mark} {k : Nat} {m : Mark} {x : Int} (h : l[k]? = some m) : grownL t (l.take (k + 1)) x = if t < m.1 then grownL t (l.take k) x + m.2 else grownL t (l.take k) x := fold_snoc h
end Tide
namespace Go.Proofs.Ytcnoapogeohmkaa
open Go.RowKit
set_option linter.unusedVariables false
theorem window_says {s : Tide.Stb} {j : Nat} {w now have0 want : Int} (h : s.ok j) (hw : Tide.Windowed w s) (hk : Tide.settleOk s now have0 want = true) : ∀ m ∈ s.wanted, now - w < m.1 → ¬ (Tide.settleN s now have0 want < have0 ∧ Tide.settleN s now have0 want < m.2) ∧ ¬ (have0 < Tide.settleN s now have0 want ∧ m.2 < Tide.settleN s now have0 want) := by
  obtain ⟨f1, f2, f3, f4⟩ := hw
  intro m hm ht
  have h1 := Stb.ok_seen h hk
  have e : Tide.settleN s now have0 want = Tide.settleN0 (s.seen now want) now have0 want := by unfold Tide.settleN; rw [hk]; rfl
  have hmem : m ∈ (s.seen now want).wanted := List.mem_append_left _ hm
  rw [e]
  unfold Tide.settleN0
  split
  · have hb : m ∈ Tide.behindL (s.seen now want).wanted (now - (s.seen now want).up.win) := by
      rw [Tide.behind_filter h1.wsort, List.mem_filter]
      exact ⟨hmem, by show decide (now - s.up.win < m.1) = true; rw [f1]; simpa using ht⟩
    have := (Tide.minAll_le _ want).2 m hb
    unfold Tide.moreN
    rw [show (s.seen now want).up.limited = false from f3]
    simp only [Bool.false_eq_true, if_false]
    omega
  · split
    · have hb : m ∈ Tide.behindL (s.seen now want).wanted (now - (s.seen now want).down.win) := by
        rw [Tide.behind_filter h1.wsort, List.mem_filter]
        exact ⟨hmem, by show decide (now - s.down.win < m.1) = true; rw [f2]; simpa using ht⟩
      have := (Tide.maxAll_ge _ want).2 m hb
      unfold Tide.fewerN
      rw [show (s.seen now want).down.limited = false from f4]
      simp only [Bool.false_eq_true, if_false]
      omega
    · omega
/-- a pace of p pods a period k to more; none to fewer; no windows -/
def Paced (p k : Int) (s : Tide.Stb) : Prop := s.up = ⟨0, p, 0, k⟩ ∧ s.down = ⟨0, 0, 0, 0⟩
theorem paced_next {p k : Int} {s : Tide.Stb} {now have0 want : Int} (h : Paced p k s) : Paced p k (Tide.settleS s now have0 want) := by
  unfold Tide.settleS
  split
  · split <;> exact h
  · exact h
theorem pace_says {s : Tide.Stb} {j : Nat} {p k now have0 want : Int} (h : s.ok j) (hp : Paced p k s) (p1 : 0 < p) (k1 : 0 < k) (hk : Tide.settleOk s now have0 want = true) (hn : have0 < Tide.settleN s now have0 want) :
    ¬ (p < Tide.grownL (now - k) (s.moved.filter Tide.grewB) (Tide.settleN s now have0 want - have0) ∧ p < Tide.settleN s now have0 want) := by
  obtain ⟨f1, f2⟩ := hp
  have h1 := Stb.ok_seen h hk
  have e : Tide.settleN s now have0 want = Tide.settleN0 (s.seen now want) now have0 want := by unfold Tide.settleN; rw [hk]; rfl
  have shift : ∀ (l : List Tide.Mark) (x : Int), Tide.grownL (now - k) l x = Tide.grownL (now - k) l 0 + x := by
    intro l
    induction l with
    | nil => intro x; simp [Tide.grownL]
    | cons a l ih =>
      intro x
      have e1 : ∀ y, Tide.grownL (now - k) (a :: l) y = Tide.grownL (now - k) l (if now - k < a.1 then y + a.2 else y) := fun y => rfl
      rw [e1, e1, ih, ih (if now - k < a.1 then 0 + a.2 else 0)]
      split <;> omega
  have hb : Tide.baseUp (s.seen now want) now have0 = max (have0 - Tide.grownL (now - k) (s.moved.filter Tide.grewB) 0) 0 := by
    unfold Tide.baseUp
    rw [Tide.behind_filter h1.msort, Tide.grown_same]
    show max (have0 - Tide.grownL (now - s.up.per) (s.moved.filter Tide.grewB) 0) 0 = _
    rw [f1]
  have hl : (s.seen now want).up.limited = true := by
    show s.up.limited = true
    rw [f1]; unfold Tide.Pace.limited; simp [p1, k1]
  have hc : Tide.ceilc (Tide.baseUp (s.seen now want) now have0 * (s.seen now want).up.pct) 100 = 0 := by
    show Tide.ceilc (_ * s.up.pct) 100 = 0
    rw [f1]; simp only [Int.mul_zero]; decide +kernel
  have hpods : (s.seen now want).up.pods = p := by show s.up.pods = p; rw [f1]
  rw [e] at hn ⊢
  rw [shift]
  unfold Tide.settleN0 at hn ⊢
  split at hn
  · rename_i hlt
    rw [if_pos hlt]
    unfold Tide.moreN at hn ⊢
    simp only [hl, if_true, hb, hpods] at hn ⊢
    rw [hb] at hc
    rw [hc] at hn ⊢
    omega
  · split at hn
    · rename_i hlt
      exfalso
      unfold Tide.fewerN at hn
      simp only at hn
      omega
    · omega
theorem settle_n0 {s : Tide.Stb} {now have0 want : Int} (hk : Tide.settleOk s now have0 want = true) : Tide.settleN s now have0 want = Tide.settleN0 (s.seen now want) now have0 want := by unfold Tide.settleN; rw [hk]; rfl
/-- who grew is told behind -/
theorem pace_next {s : Tide.Stb} {now have0 want : Int} (hk : Tide.settleOk s now have0 want = true) : (Tide.settleS s now have0 want).moved.filter Tide.grewB = s.moved.filter Tide.grewB ++ (if have0 < Tide.settleN s now have0 want then [(now, Tide.settleN s now have0 want - have0)] else []) ∧ (Tide.settleS s now have0 want).last = now := by
  have e := settle_n0 hk
  unfold Tide.settleS
  rw [if_pos hk, ← e]
  split
  · rename_i he
    rw [if_neg (by omega), List.append_nil]
    exact ⟨rfl, rfl⟩
  · rename_i he
    refine ⟨?_, rfl⟩
    show (s.moved ++ [(now, _)]).filter _ = _
    rw [List.filter_append]
    by_cases c : have0 < Tide.settleN s now have0 want
    · rw [if_pos c, List.filter_cons, if_pos (by unfold Tide.grewB; simp; omega)]; rfl
    · rw [if_neg c, List.filter_cons, if_neg (by unfold Tide.grewB; simp; omega)]; rfl
end Go.Proofs.Ytcnoapogeohmkaa


namespace Go.Proofs.Ytcnoapogeohmkaa
open Go.RowKit
set_option linter.unusedVariables false
def clipIf (b : Bool) (a : Int) : Int := if b then Tide.clipT a else a
def fixCells (a b c d : Int) (k : Nat) : Array Value := #[.int .i64 (clipIf (decide (0 < k)) a), .int .i64 (clipIf (decide (1 < k)) b), .int .i64 (clipIf (decide (2 < k)) c), .int .i64 (clipIf (decide (3 < k)) d)]
/-- what is there at the head of the loop -/
structure FixAt (w wr : World) (a b c d : Int) (k : Nat) : Prop where
  box : Tide.At wr w.heap.size 23 (fixCells a b c d k)
  res : Tide.At wr (w.heap.size + 1) 23 #[.int .i64 0, .int .i64 0, .int .i64 0, .int .i64 0]
  row : Tide.At wr (w.heap.size + 2) 99 #[.pointer (some ⟨w.heap.size, 0, none⟩), .pointer (some ⟨w.heap.size, 1, none⟩), .pointer (some ⟨w.heap.size, 2, none⟩), .pointer (some ⟨w.heap.size, 3, none⟩)]
  below : Below w.heap.size w wr
theorem FixAt.put {w wr : World} {a b c d : Int} {k : Nat} {x : Int} (h : FixAt w wr a b c d k) (hx : (fixCells a b c d k).setIfInBounds k (.int .i64 x) = fixCells a b c d (k + 1)) : FixAt w (wr.setCell ⟨w.heap.size, k, none⟩ (.int .i64 x)) a b c d (k + 1) := by
  have h1 := h.box.put k (.int .i64 x)
  rw [hx] at h1
  exact ⟨h1, h.res.other (p := ⟨w.heap.size, k, none⟩) (by show w.heap.size + 1 ≠ w.heap.size; omega) _, h.row.other (p := ⟨w.heap.size, k, none⟩) (by show w.heap.size + 2 ≠ w.heap.size; omega) _, h.below.setCell (p := ⟨w.heap.size, k, none⟩) (Nat.le_refl _) _⟩
theorem FixAt.same {w wr : World} {a b c d : Int} {k : Nat} (h : FixAt w wr a b c d k) (hx : fixCells a b c d k = fixCells a b c d (k + 1)) : FixAt w wr a b c d (k + 1) := ⟨hx ▸ h.box, h.res, h.row, h.below⟩
set_option maxRecDepth 100000 in
set_option maxHeartbeats 6400000 in
theorem calFix (a b c d : Int) (w : World) : Calls Try.prog 50 #[.agg #[.int .i64 a, .int .i64 b, .int .i64 c, .int .i64 d]] w fun e w' => e = .returned (.agg #[.int .i64 (Tide.clipT a), .int .i64 (Tide.clipT b), .int .i64 (Tide.clipT c), .int .i64 (Tide.clipT d)]) ∧ Below w.heap.size w w' := by
  have hbl : Below w.heap.size w (((w.alloc (.cells #[.int .i64 a, .int .i64 b, .int .i64 c, .int .i64 d] 23)).alloc (.cells #[.int .i64 0, .int .i64 0, .int .i64 0, .int .i64 0] 23)).alloc (.cells #[.pointer (some ⟨w.heap.size, 0, none⟩), .pointer (some ⟨w.heap.size, 1, none⟩), .pointer (some ⟨w.heap.size, 2, none⟩), .pointer (some ⟨w.heap.size, 3, none⟩)] 99)) := (((Below.refl _ _).alloc (Nat.le_refl _) _).alloc (by simp) _).alloc (by simp <;> omega) _
  have hr1 : Tide.At _ (w.alloc (.cells #[.int .i64 a, .int .i64 b, .int .i64 c, .int .i64 d] 23)).heap.size 23 #[.int .i64 0, .int .i64 0, .int .i64 0, .int .i64 0] := Tide.At.made (w.alloc (.cells #[.int .i64 a, .int .i64 b, .int .i64 c, .int .i64 d] 23)) _ _
  have hr2 : Tide.At _ ((w.alloc (.cells #[.int .i64 a, .int .i64 b, .int .i64 c, .int .i64 d] 23)).alloc (.cells #[.int .i64 0, .int .i64 0, .int .i64 0, .int .i64 0] 23)).heap.size 99 #[.pointer (some ⟨w.heap.size, 0, none⟩), .pointer (some ⟨w.heap.size, 1, none⟩), .pointer (some ⟨w.heap.size, 2, none⟩), .pointer (some ⟨w.heap.size, 3, none⟩)] := Tide.At.made _ _ _
  have z1 : (w.alloc (.cells #[.int .i64 a, .int .i64 b, .int .i64 c, .int .i64 d] 23)).heap.size = w.heap.size + 1 := by simp
  have z2 : ((w.alloc (.cells #[.int .i64 a, .int .i64 b, .int .i64 c, .int .i64 d] 23)).alloc (.cells #[.int .i64 0, .int .i64 0, .int .i64 0, .int .i64 0] 23)).heap.size = w.heap.size + 2 := by simp
  rw [z1] at hr1; rw [z2] at hr2
  have H0 := Lib.hid (show FixAt w _ a b c d 0 from ⟨((Tide.At.made w 23 _).alloc (.cells #[.int .i64 0, .int .i64 0, .int .i64 0, .int .i64 0] 23)).alloc _, hr1.alloc _, hr2, hbl⟩)
  clear hbl hr1 hr2 z1 z2
  go_enter Try.func50, Try.ntmps50
  go_wp2_with fail
  go_loopw [11] (fun i wr => ∃ k : Nat, k ≤ 4 ∧ i = .int .i64 k ∧ Hid (FixAt w wr a b c d k)) (fun i _ => 4 - (intOf i).toNat)
  case atStart => exact ⟨0, by omega, rfl, H0⟩
  case round =>
    clear H0
    obtain ⟨k, hk, rfl, HF⟩ := hrel
    rcases (show k = 0 ∨ k = 1 ∨ k = 2 ∨ k = 3 ∨ k = 4 by omega) with rfl | rfl | rfl | rfl | rfl
    · have hp := HF.out.row.here (i := 0) rfl
      have hc := HF.out.box.here (i := 0) rfl
      have hf := HF.out.box.soft 0
      change _ = some (Value.int .i64 a) at hc
      by_cases q1 : a < 0
      · have HN := Lib.hid (HF.out.put (x := 0) (by simp [fixCells, clipIf, Tide.clipT]; omega))
        go_wp2_with fail
        go_roundw
        case rel => exact ⟨1, by omega, by go_num, HN⟩
        case measure => simp [intOf]
      · have q1' : 0 ≤ a := by omega
        by_cases q2 : 100000 < a
        · have HN := Lib.hid (HF.out.put (x := 100000) (by simp [fixCells, clipIf, Tide.clipT]; omega))
          clear q1
          go_wp2_with fail
          go_roundw
          case rel => exact ⟨1, by omega, by go_num, HN⟩
          case measure => simp [intOf]
        · have q2' : a ≤ 100000 := by omega
          have HN := Lib.hid (HF.out.same (by simp [fixCells, clipIf, Tide.clipT]; omega))
          clear q1 q2
          go_wp2_with fail
          go_roundw
          case rel => exact ⟨1, by omega, by go_num, HN⟩
          case measure => simp [intOf]
    · have hp := HF.out.row.here (i := 1) rfl
      have hc := HF.out.box.here (i := 1) rfl
      have hf := HF.out.box.soft 1
      change _ = some (Value.int .i64 b) at hc
      by_cases q1 : b < 0
      · have HN := Lib.hid (HF.out.put (x := 0) (by simp [fixCells, clipIf, Tide.clipT]; omega))
        go_wp2_with fail
        go_roundw
        case rel => exact ⟨2, by omega, by go_num, HN⟩
        case measure => simp [intOf]
      · have q1' : 0 ≤ b := by omega
        by_cases q2 : 100000 < b
        · have HN := Lib.hid (HF.out.put (x := 100000) (by simp [fixCells, clipIf, Tide.clipT]; omega))
          clear q1
          go_wp2_with fail
          go_roundw
          case rel => exact ⟨2, by omega, by go_num, HN⟩
          case measure => simp [intOf]
        · have q2' : b ≤ 100000 := by omega
          have HN := Lib.hid (HF.out.same (by simp [fixCells, clipIf, Tide.clipT]; omega))
          clear q1 q2
          go_wp2_with fail
          go_roundw
          case rel => exact ⟨2, by omega, by go_num, HN⟩
          case measure => simp [intOf]
    · have hp := HF.out.row.here (i := 2) rfl
      have hc := HF.out.box.here (i := 2) rfl
      have hf := HF.out.box.soft 2
      change _ = some (Value.int .i64 c) at hc
      by_cases q1 : c < 0
      · have HN := Lib.hid (HF.out.put (x := 0) (by simp [fixCells, clipIf, Tide.clipT]; omega))
        go_wp2_with fail
        go_roundw
        case rel => exact ⟨3, by omega, by go_num, HN⟩
        case measure => simp [intOf]
      · have q1' : 0 ≤ c := by omega
        by_cases q2 : 100000 < c
        · have HN := Lib.hid (HF.out.put (x := 100000) (by simp [fixCells, clipIf, Tide.clipT]; omega))
          clear q1
          go_wp2_with fail
          go_roundw
          case rel => exact ⟨3, by omega, by go_num, HN⟩
          case measure => simp [intOf]
        · have q2' : c ≤ 100000 := by omega
          have HN := Lib.hid (HF.out.same (by simp [fixCells, clipIf, Tide.clipT]; omega))
          clear q1 q2
          go_wp2_with fail
          go_roundw
          case rel => exact ⟨3, by omega, by go_num, HN⟩
          case measure => simp [intOf]
    · have hp := HF.out.row.here (i := 3) rfl
      have hc := HF.out.box.here (i := 3) rfl
      have hf := HF.out.box.soft 3
      change _ = some (Value.int .i64 d) at hc
      by_cases q1 : d < 0
      · have HN := Lib.hid (HF.out.put (x := 0) (by simp [fixCells, clipIf, Tide.clipT]; omega))
        go_wp2_with fail
        go_roundw
        case rel => exact ⟨4, by omega, by go_num, HN⟩
        case measure => simp [intOf]
      · have q1' : 0 ≤ d := by omega
        by_cases q2 : 100000 < d
        · have HN := Lib.hid (HF.out.put (x := 100000) (by simp [fixCells, clipIf, Tide.clipT]; omega))
          clear q1
          go_wp2_with fail
          go_roundw
          case rel => exact ⟨4, by omega, by go_num, HN⟩
          case measure => simp [intOf]
        · have q2' : d ≤ 100000 := by omega
          have HN := Lib.hid (HF.out.same (by simp [fixCells, clipIf, Tide.clipT]; omega))
          clear q1 q2
          go_wp2_with fail
          go_roundw
          case rel => exact ⟨4, by omega, by go_num, HN⟩
          case measure => simp [intOf]
    · have c0 : wr.cell? ⟨w.heap.size, 0, none⟩ = some (.int .i64 (Tide.clipT a)) := HF.out.box.here (i := 0) rfl
      have c1 : wr.cell? ⟨w.heap.size, 1, none⟩ = some (.int .i64 (Tide.clipT b)) := HF.out.box.here (i := 1) rfl
      have c2 : wr.cell? ⟨w.heap.size, 2, none⟩ = some (.int .i64 (Tide.clipT c)) := HF.out.box.here (i := 2) rfl
      have c3 : wr.cell? ⟨w.heap.size, 3, none⟩ = some (.int .i64 (Tide.clipT d)) := HF.out.box.here (i := 3) rfl
      have r0 := HF.out.res.here (i := 0) rfl; have r1 := HF.out.res.here (i := 1) rfl; have r2 := HF.out.res.here (i := 2) rfl; have r3 := HF.out.res.here (i := 3) rfl
      have f0 := HF.out.res.soft 0; have f1 := HF.out.res.soft 1; have f2 := HF.out.res.soft 2; have f3 := HF.out.res.soft 3
      have HB := Lib.hid HF.out.below
      have hbz := HF.out.res.inside
      have HR := Lib.hid HF.out.res
      go_wp2_with fail
      have q3 := (((HR.out.put 0 (.int .i64 (Tide.clipT a))).put 1 (.int .i64 (Tide.clipT b))).put 2 (.int .i64 (Tide.clipT c))).put 3 (.int .i64 (Tide.clipT d))
      have d0 := q3.here (i := 0) rfl; have d1 := q3.here (i := 1) rfl; have d2 := q3.here (i := 2) rfl; have d3 := q3.here (i := 3) rfl
      refine bodyPost_ret (v := .agg #[.int .i64 (Tide.clipT a), .int .i64 (Tide.clipT b), .int .i64 (Tide.clipT c), .int .i64 (Tide.clipT d)]) (by simp [results, Try.results50, go_sem, d0, d1, d2, d3]) rfl ⟨rfl, ?_⟩
      exact (((HB.out.setCell (p := ⟨w.heap.size + 1, 0, none⟩) (by simp) _).setCell (p := ⟨w.heap.size + 1, 1, none⟩) (by simp) _).setCell (p := ⟨w.heap.size + 1, 2, none⟩) (by simp) _).setCell (p := ⟨w.heap.size + 1, 3, none⟩) (by simp) _
theorem fix4 (a b c d : Int) (w0 W : World) (h : Below w0.heap.size w0 W) : Calls Try.prog 50 #[.agg #[.int .i64 a, .int .i64 b, .int .i64 c, .int .i64 d]] W fun e w' => e = .returned (.agg #[.int .i64 (Tide.clipT a), .int .i64 (Tide.clipT b), .int .i64 (Tide.clipT c), .int .i64 (Tide.clipT d)]) ∧ Below w0.heap.size w0 w' ∧ (∀ b o, b < W.heap.size → w'.cell? ⟨b, o, none⟩ = W.cell? ⟨b, o, none⟩) :=
  (calFix a b c d W).mono fun _ _ ⟨he, hb⟩ => ⟨he, h.trans (hb.mono h.size), hb.cell_frozen.1⟩
set_option maxRecDepth 100000 in
set_option maxHeartbeats 1600000 in
theorem calNew (u d : Tide.Pace) (w : World) : Calls Try.prog 34 #[.agg #[.int .i64 u.win, .int .i64 u.pods, .int .i64 u.pct, .int .i64 u.per], .agg #[.int .i64 d.win, .int .i64 d.pods, .int .i64 d.pct, .int .i64 d.per]] w (NewStbPost 103 113 w (Tide.newStb u d)) := by
  have hA := (Tide.At.made w 23 #[.int .i64 u.win, .int .i64 u.pods, .int .i64 u.pct, .int .i64 u.per]).alloc (.cells #[.int .i64 d.win, .int .i64 d.pods, .int .i64 d.pct, .int .i64 d.per] 23)
  have hB := Tide.At.made (w.alloc (.cells #[.int .i64 u.win, .int .i64 u.pods, .int .i64 u.pct, .int .i64 u.per] 23)) 23 #[.int .i64 d.win, .int .i64 d.pods, .int .i64 d.pct, .int .i64 d.per]
  simp only [World.size_alloc] at hB
  have hb0 : Below w.heap.size w ((w.alloc (.cells #[.int .i64 u.win, .int .i64 u.pods, .int .i64 u.pct, .int .i64 u.per] 23)).alloc (.cells #[.int .i64 d.win, .int .i64 d.pods, .int .i64 d.pct, .int .i64 d.per] 23)) := ((Below.refl _ _).alloc (Nat.le_refl _) _).alloc (by simp) _
  have HA := Lib.hid hA.drew; have HB := Lib.hid hB.drew; have H0 := Lib.hid hb0.drew
  clear hA hB hb0
  go_enter Try.func34, Try.ntmps34
  go_wp2_with fail
  have hb1 := H0.out
  go_region_with (go_at_call 50; refine (fix4 _ _ _ _ w _ (by assumption)).mono ?_; rintro e w1 ⟨rfl, hb1, hc1⟩)
  all_goals
    have HF := Lib.hid (stb_made (T := 103) (TM := 113) (s := Tide.newStb u d) hb1 rfl rfl)
    clear hb1
    go_wp2_with fail
    go_ret
    exact HF.out
end Go.Proofs.Ytcnoapogeohmkaa
