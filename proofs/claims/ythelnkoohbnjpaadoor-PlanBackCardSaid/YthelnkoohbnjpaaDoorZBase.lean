/- Plain facts on memory: a block known whole; a world that has turned at some blocks alone. No program in sight. Plain facts on rows: a list of structs (or numbers) in a block; who owns which blocks. No program in sight. Plain facts on lists: a list whose head has been turned so far; the first for which something holds. -/
import Derived.WalkKit
import Derived.Deep.Draws
import Derived.Deep.AppendLies

set_option linter.unusedVariables false
set_option linter.unusedSimpArgs false
namespace Tide
open Go Go.RowKit

/-- block g is these cells, none frozen -/
def At (w : World) (g : Nat) (t : TypeId) (cs : Array Value) : Prop := w.heap[g]? = some (.cells cs t (0, 0))
section
variable {w w' : World} {g : Nat} {t : TypeId} {cs : Array Value}
theorem At.inside (h : At w g t cs) : g < w.heap.size := by
  rcases Nat.lt_or_ge g w.heap.size with hl | hl
  · exact hl
  · unfold At at h; rw [Array.getElem?_eq_none hl] at h; exact absurd h (by simp)
theorem At.here {i : Nat} {v : Value} (h : At w g t cs) (hv : cs[i]? = some v) : w.cell? ⟨g, i, none⟩ = some v := (cell_of_row w g i cs t (0, 0) h).trans hv
theorem At.soft (h : At w g t cs) (i : Nat) : w.frozen? ⟨g, i, none⟩ = false := by
  have h' : w.heap[g]? = some (.cells cs t (0, 0)) := h
  simp [World.frozen?, h']
theorem At.made (w : World) (t : TypeId) (cs : Array Value) : At (w.alloc (.cells cs t)) w.heap.size t cs := heap_alloc_new w _
theorem At.alloc (h : At w g t cs) (o : Obj) : At (w.alloc o) g t cs := (Below.heap_alloc w o g h.inside).trans h
theorem At.drew (h : At w g t cs) : At w.drew g t cs := h
theorem At.drewN (h : At w g t cs) (n : Nat) : At (w.drewN n) g t cs := h
theorem At.put (h : At w g t cs) (i : Nat) (u : Value) : At (w.setCell ⟨g, i, none⟩ u) g t (cs.setIfInBounds i u) := by
  have h' : w.heap[g]? = some (.cells cs t (0, 0)) := h
  show (w.setCell ⟨g, i, none⟩ u).heap[g]? = _
  simp [World.setCell, Array.getElem?_modify, h']
theorem At.other (h : At w g t cs) {p : Addr} (hp : g ≠ p.block) (u : Value) : At (w.setCell p u) g t cs := (Below.heap_setCell w p u g hp).trans h
theorem At.below {B : Nat} (h : At w g t cs) (hb : Below B w w') (hg : g < B) : At w' g t cs := (hb.block g hg).trans h
theorem At.same_of {cs' : Array Value} {t' : TypeId} (h : At w g t cs) (h' : At w g t' cs') : t = t' ∧ cs = cs' := by
  have e : some (Obj.cells cs t (0, 0)) = some (Obj.cells cs' t' (0, 0)) := Eq.trans (Eq.symm h) h'
  injection e with e
  injection e with e1 e2
  exact ⟨e2, e1⟩
theorem At.apart {g' : Nat} {cs' : Array Value} {t' : TypeId} (h : At w g t cs) (h' : At w g' t' cs') (hne : t ≠ t') : g ≠ g' := by
  rintro rfl; exact hne (h.same_of h').1
end

/-- w' is w, but at the blocks of S, and at new ones -/
structure Chg (S : Nat → Prop) (w w' : World) : Prop where
  os : w'.os = w.os
  tape : w'.tape = w.tape
  output : w'.output = w.output
  size : w.heap.size ≤ w'.heap.size
  block : ∀ k, k < w.heap.size → ¬ S k → w'.heap[k]? = w.heap[k]?
section
variable {S S' : Nat → Prop} {a w w' : World}
theorem Chg.refl (S : Nat → Prop) (w : World) : Chg S w w := ⟨rfl, rfl, rfl, Nat.le_refl _, fun _ _ _ => rfl⟩
theorem Chg.trans (h : Chg S a w) (k : Chg S w w') : Chg S a w' :=
  ⟨k.os.trans h.os, k.tape.trans h.tape, k.output.trans h.output, Nat.le_trans h.size k.size, fun i hi hs => (k.block i (Nat.lt_of_lt_of_le hi h.size) hs).trans (h.block i hi hs)⟩
theorem Chg.mono (h : Chg S w w') (hs : ∀ k, k < w.heap.size → S k → S' k) : Chg S' w w' := ⟨h.os, h.tape, h.output, h.size, fun k hk hn => h.block k hk (fun c => hn (hs k hk c))⟩
theorem Chg.drew (h : Chg S a w) : Chg S a w.drew := ⟨h.os, h.tape, h.output, h.size, h.block⟩
theorem Chg.drewN (h : Chg S a w) (n : Nat) : Chg S a (w.drewN n) := ⟨h.os, h.tape, h.output, h.size, h.block⟩
theorem Chg.alloc (h : Chg S a w) (o : Obj) : Chg S a (w.alloc o) :=
  ⟨h.os, h.tape, h.output, Nat.le_trans h.size (by simp), fun k hk hs => (Below.heap_alloc w o k (Nat.lt_of_lt_of_le hk h.size)).trans (h.block k hk hs)⟩
theorem Chg.put (h : Chg S a w) {p : Addr} (hp : S p.block ∨ a.heap.size ≤ p.block) (u : Value) : Chg S a (w.setCell p u) :=
  ⟨h.os, h.tape, h.output, by simpa [World.setCell] using h.size, fun k hk hs => (Below.heap_setCell w p u k (by
    rintro rfl
    rcases hp with c | c
    · exact hs c
    · omega)).trans (h.block k hk hs)⟩
theorem Chg.grown {row : Option Nat} (h : Chg S a w) (hg : w.grownBy w' row) (hr : ∀ g, row = some g → S g ∨ a.heap.size ≤ g) : Chg S a w' :=
  ⟨hg.os.trans h.os, hg.tape.trans h.tape, hg.output.trans h.output, Nat.le_trans h.size hg.size, fun k hk hs => (hg.block k (Nat.lt_of_lt_of_le hk h.size) (fun e => by
    rcases hr k e.symm with c | c
    · exact hs c
    · omega)).trans (h.block k hk hs)⟩
/-- a step that may turn what is new to a, or in S -/
theorem Chg.step {S1 : Nat → Prop} (h : Chg S a w) (k : Chg S1 w w') (hs : ∀ g, S1 g → S g ∨ a.heap.size ≤ g) : Chg S a w' :=
  ⟨k.os.trans h.os, k.tape.trans h.tape, k.output.trans h.output, Nat.le_trans h.size k.size, fun i hi hn => (k.block i (Nat.lt_of_lt_of_le hi h.size) (fun c => by
    rcases hs i c with d | d
    · exact hn d
    · omega)).trans (h.block i hi hn)⟩
theorem Chg.of_below {B : Nat} (h : Below B w w') (hB : w.heap.size ≤ B) : Chg S w w' := ⟨h.os, h.tape, h.output, h.size, fun k hk _ => h.block k (by omega)⟩
theorem Chg.step_below {B : Nat} (h : Chg S a w) (k : Below B w w') (hB : a.heap.size ≤ B) : Chg S a w' :=
  ⟨k.os.trans h.os, k.tape.trans h.tape, k.output.trans h.output, Nat.le_trans h.size k.size, fun i hi hn => (k.block i (by omega)).trans (h.block i hi hn)⟩
theorem Chg.below {B : Nat} (h : Chg S w w') (hB : B ≤ w.heap.size) (hs : ∀ k, k < B → ¬ S k) : Below B w w' := ⟨h.os, h.tape, h.output, h.size, fun k hk => h.block k (by omega) (hs k hk)⟩
theorem At.chg {g : Nat} {t : TypeId} {cs : Array Value} (h : At w g t cs) (hc : Chg S w w') (hs : ¬ S g) : At w' g t cs := (hc.block g h.inside hs).trans h
theorem At.grown {g : Nat} {t : TypeId} {cs : Array Value} {row : Option Nat} (h : At w g t cs) (hg : w.grownBy w' row) (hn : row ≠ some g) : At w' g t cs := (hg.block g h.inside (fun e => hn e.symm)).trans h
end
theorem own_ge {w : World} {B : Nat} {e : TypeId} {s : Nat} {v : Value} {n : Nat} {xs : List Value} (h : w.ownsRow B e s v n xs) : ∀ g, v.ownBlock = some g → B ≤ g := by
  intro g hg
  rcases h.2 with ⟨rfl, _⟩ | ⟨g', cap, cur, rfl, hb, _⟩
  · simp [Value.ownBlock] at hg
  · simp [Value.ownBlock] at hg; omega
theorem new_one {w : World} {T : TypeId} {v : Value} {g : Nat} (hg : g = w.heap.size) : ∀ (j : Nat) (u : Value), [v][j]? = some u → (w.alloc (.cells #[v] T)).cell? ((⟨g, 0, none⟩ : Addr).add j) = some u := by
  intro j u hu
  subst hg
  rcases j with _ | j
  · simp at hu; subst hu
    show (w.alloc (.cells #[v] T)).cell? ⟨w.heap.size, 0, none⟩ = some v
    simp
  · simp at hu
/-- an own row, kept where its own block is not one of those that turned -/
theorem own_chg {S : Nat → Prop} {w w' : World} {B : Nat} {e : TypeId} {s : Nat} {v : Value} {n : Nat} {xs : List Value} (h : w.ownsRow B e s v n xs) (hc : Chg S w w') (hs : ∀ g, B ≤ g → g < w.heap.size → ¬ S g) : w'.ownsRow B e s v n xs := by
  obtain ⟨h1, h2⟩ := h
  refine ⟨h1, ?_⟩
  rcases h2 with ⟨rfl, rfl⟩ | ⟨g, cap, cur, rfl, hb, hh, h3, h4, h5, h6⟩
  · exact .inl ⟨rfl, rfl⟩
  · have hlt : g < w.heap.size := by
      rcases Nat.lt_or_ge g w.heap.size with hl | hl
      · exact hl
      · rw [Array.getElem?_eq_none hl] at hh; cases hh
    exact .inr ⟨g, cap, cur, rfl, hb, (hc.block g hlt (hs g hb hlt)).trans hh, h3, h4, h5, h6⟩
end Tide


namespace Tide
open Go Go.RowKit

/-- the first cells of block g are xs; it has size cells, none frozen -/
def RowIn (w : World) (g : Nat) (T : TypeId) (size : Nat) (xs : List Value) : Prop := ∃ cur, At w g T cur ∧ cur.size = size ∧ xs.length ≤ size ∧ cur.toList.take xs.length = xs
section
variable {w w' : World} {g : Nat} {T : TypeId} {size : Nat} {xs : List Value}
theorem RowIn.inside (h : RowIn w g T size xs) : g < w.heap.size := by obtain ⟨cur, h1, _⟩ := h; exact h1.inside
theorem RowIn.cell {i : Nat} {v : Value} (h : RowIn w g T size xs) (hv : xs[i]? = some v) : w.cell? ⟨g, i, none⟩ = some v := by
  obtain ⟨cur, h1, h2, h3, h4⟩ := h
  have hlt : i < xs.length := by
    rcases Nat.lt_or_ge i xs.length with hl | hl
    · exact hl
    · rw [List.getElem?_eq_none hl] at hv; cases hv
  refine h1.here ?_
  rw [← Array.getElem?_toList, ← hv]
  conv => rhs; rw [← h4]
  rw [List.getElem?_take, if_pos hlt]
theorem RowIn.soft (h : RowIn w g T size xs) (i : Nat) : w.frozen? ⟨g, i, none⟩ = false := by obtain ⟨cur, h1, _⟩ := h; exact h1.soft i
theorem RowIn.alloc (h : RowIn w g T size xs) (o : Obj) : RowIn (w.alloc o) g T size xs := by obtain ⟨cur, h1, h2⟩ := h; exact ⟨cur, h1.alloc o, h2⟩
theorem RowIn.drew (h : RowIn w g T size xs) : RowIn w.drew g T size xs := h
theorem RowIn.drewN (h : RowIn w g T size xs) (n : Nat) : RowIn (w.drewN n) g T size xs := h
theorem RowIn.other (h : RowIn w g T size xs) {p : Addr} (hp : g ≠ p.block) (u : Value) : RowIn (w.setCell p u) g T size xs := by obtain ⟨cur, h1, h2⟩ := h; exact ⟨cur, h1.other hp u, h2⟩
theorem RowIn.put (h : RowIn w g T size xs) {i : Nat} (hi : i < xs.length) (u : Value) : RowIn (w.setCell ⟨g, i, none⟩ u) g T size (xs.set i u) := by
  obtain ⟨cur, h1, h2, h3, h4⟩ := h
  refine ⟨_, h1.put i u, by simpa using h2, by simpa using h3, ?_⟩
  rw [List.length_set]
  show (cur.setIfInBounds i u).toList.take xs.length = xs.set i u
  rw [Array.toList_setIfInBounds, List.take_set, h4]
theorem RowIn.chg {S : Nat → Prop} (h : RowIn w g T size xs) (hc : Chg S w w') (hs : ¬ S g) : RowIn w' g T size xs := by obtain ⟨cur, h1, h2⟩ := h; exact ⟨cur, h1.chg hc hs, h2⟩
theorem RowIn.below {B : Nat} (h : RowIn w g T size xs) (hb : Below B w w') (hg : g < B) : RowIn w' g T size xs := by obtain ⟨cur, h1, h2⟩ := h; exact ⟨cur, h1.below hb hg, h2⟩
theorem RowIn.fewer (h : RowIn w g T size xs) (n : Nat) : RowIn w g T size (xs.take n) := by
  obtain ⟨cur, h1, h2, h3, h4⟩ := h
  refine ⟨cur, h1, h2, by simp; omega, ?_⟩
  conv => rhs; rw [← h4]
  rw [List.take_take, List.length_take]
theorem RowIn.apart {g' : Nat} {T' : TypeId} {size' : Nat} {xs' : List Value} (h : RowIn w g T size xs) (h' : RowIn w g' T' size' xs') (hne : T ≠ T') : g ≠ g' := by
  obtain ⟨cur, h1, _⟩ := h; obtain ⟨cur', h1', _⟩ := h'; exact h1.apart h1' hne
theorem RowIn.apartAt {g' : Nat} {T' : TypeId} {cs : Array Value} (h : RowIn w g T size xs) (h' : At w g' T' cs) (hne : T ≠ T') : g ≠ g' := by
  obtain ⟨cur, h1, _⟩ := h; exact h1.apart h' hne
theorem At.row {cs : Array Value} (h : At w g T cs) : RowIn w g T cs.size cs.toList := ⟨cs, h, rfl, by simp, List.take_of_length_le (Nat.le_refl _)⟩
end

/-- slice v: n elements, k cells each, the cells xs; nil, or a block of S from its head on -/
def OwnRow (S : Nat → Prop) (w : World) (T : TypeId) (k : Nat) (v : Value) (n : Nat) (xs : List Value) : Prop :=
  xs.length = n * k ∧ ((v = .slice none 0 0 ∧ n = 0) ∨ ∃ g cap, v = .slice (some ⟨g, 0, none⟩) n cap ∧ S g ∧ n ≤ cap ∧ cap ≤ maxLen ∧ RowIn w g T (cap * k) xs)
section
variable {S S' : Nat → Prop} {w w' : World} {T : TypeId} {k : Nat} {v : Value} {n : Nat} {xs : List Value}
theorem OwnRow.nil (S : Nat → Prop) (w : World) (T : TypeId) (k : Nat) : OwnRow S w T k (.slice none 0 0) 0 [] := ⟨by simp, .inl ⟨rfl, rfl⟩⟩
theorem OwnRow.mono (h : OwnRow S w T k v n xs) (hs : ∀ g, g < w.heap.size → S g → S' g) : OwnRow S' w T k v n xs := by
  refine ⟨h.1, ?_⟩
  rcases h.2 with hn | ⟨g, cap, e, hS, h3, h4, h5⟩
  · exact .inl hn
  · exact .inr ⟨g, cap, e, hs g h5.inside hS, h3, h4, h5⟩
theorem OwnRow.form (h : OwnRow S w T k v n xs) (hn : 0 < n) : ∃ g cap, v = .slice (some ⟨g, 0, none⟩) n cap ∧ S g ∧ n ≤ cap ∧ cap ≤ maxLen ∧ RowIn w g T (cap * k) xs := by
  rcases h.2 with ⟨_, h0⟩ | h1
  · omega
  · exact h1
/-- the value's shape, nil or not -/
theorem OwnRow.slice (h : OwnRow S w T k v n xs) : ∃ A cap, v = .slice A n cap ∧ n ≤ cap ∧ cap ≤ maxLen ∧ (0 < n → ∃ g, A = some ⟨g, 0, none⟩ ∧ S g ∧ RowIn w g T (cap * k) xs) := by
  rcases h.2 with ⟨rfl, rfl⟩ | ⟨g, cap, e, hS, h3, h4, h5⟩
  · exact ⟨none, 0, rfl, Nat.le_refl 0, Nat.zero_le _, fun h => by omega⟩
  · exact ⟨_, cap, e, h3, h4, fun _ => ⟨g, rfl, hS, h5⟩⟩
theorem OwnRow.alloc (h : OwnRow S w T k v n xs) (o : Obj) : OwnRow S (w.alloc o) T k v n xs := by
  refine ⟨h.1, ?_⟩
  rcases h.2 with hn | ⟨g, cap, e, hS, h3, h4, h5⟩
  · exact .inl hn
  · exact .inr ⟨g, cap, e, hS, h3, h4, h5.alloc o⟩
theorem OwnRow.drew (h : OwnRow S w T k v n xs) : OwnRow S w.drew T k v n xs := h
theorem OwnRow.drewN (h : OwnRow S w T k v n xs) (m : Nat) : OwnRow S (w.drewN m) T k v n xs := h
theorem OwnRow.chg {C : Nat → Prop} (h : OwnRow S w T k v n xs) (hc : Chg C w w') (hs : ∀ g, S g → ¬ C g) : OwnRow S w' T k v n xs := by
  refine ⟨h.1, ?_⟩
  rcases h.2 with hn | ⟨g, cap, e, hS, h3, h4, h5⟩
  · exact .inl hn
  · exact .inr ⟨g, cap, e, hS, h3, h4, h5.chg hc (hs g hS)⟩
theorem OwnRow.below {B : Nat} (h : OwnRow S w T k v n xs) (hb : Below B w w') (hB : w.heap.size ≤ B) : OwnRow S w' T k v n xs :=
  h.chg (C := fun _ => False) (Chg.of_below hb hB) (fun _ _ h => h)
theorem OwnRow.other (h : OwnRow S w T k v n xs) {p : Addr} (hp : ¬ S p.block) (u : Value) : OwnRow S (w.setCell p u) T k v n xs :=
  h.chg ((Chg.refl (· = p.block) w).put (.inl rfl) u) (fun g hg e => hp (e ▸ hg))
theorem OwnRow.owns (h : OwnRow S w T k v n xs) : w.ownsRow 0 T k v n xs := by
  refine ⟨h.1, ?_⟩
  rcases h.2 with hn | ⟨g, cap, e, hS, h3, h4, cur, h5, h6, h7, h8⟩
  · exact .inl hn
  · exact .inr ⟨g, cap, cur, e, Nat.zero_le _, h5, h3, h4, h6, by rw [← h.1]; exact h8⟩
theorem OwnRow.block (h : OwnRow S w T k v n xs) : ∀ g, v.ownBlock = some g → S g ∧ g < w.heap.size := by
  intro g hg
  rcases h.2 with ⟨rfl, _⟩ | ⟨g', cap, rfl, hS, _, _, h5⟩
  · simp [Value.ownBlock] at hg
  · simp [Value.ownBlock] at hg; subst hg; exact ⟨hS, h5.inside⟩
theorem OwnRow.of_owns {B : Nat} (h : w.ownsRow B T k v n xs) (hs : ∀ g, v.ownBlock = some g → S g) : OwnRow S w T k v n xs := by
  refine ⟨h.1, ?_⟩
  rcases h.2 with hn | ⟨g, cap, cur, rfl, hb, h5, h3, h4, h6, h8⟩
  · exact .inl hn
  · refine .inr ⟨g, cap, rfl, hs g rfl, h3, h4, cur, h5, h6, ?_, ?_⟩
    · rw [h.1]; exact Nat.mul_le_mul_right _ h3
    · rw [h.1]; exact h8
theorem OwnRow.put {g cap : Nat} (h : OwnRow S w T k (.slice (some ⟨g, 0, none⟩) n cap) n xs) {i : Nat} (hi : i < xs.length) (u : Value) : OwnRow S (w.setCell ⟨g, i, none⟩ u) T k (.slice (some ⟨g, 0, none⟩) n cap) n (xs.set i u) := by
  refine ⟨by rw [List.length_set]; exact h.1, ?_⟩
  rcases h.2 with ⟨hn, _⟩ | ⟨g', cap', e, hS, h3, h4, h5⟩
  · cases hn
  · cases e; exact .inr ⟨_, _, rfl, hS, h3, h4, h5.put hi u⟩
/-- behind an append: the row, and what became of the world -/
theorem OwnRow.grown {v' : Value} {m : Nat} {ys : List Value} (h : OwnRow S w T k v n xs) (hg : w.grownBy w' v.ownBlock) (h' : w'.ownsRow 0 T k v' m ys) (hl : v'.ownBlock = v.ownBlock ∨ v'.ownBlock = some w.heap.size) (hlt : ∀ g, v'.ownBlock = some g → g < w'.heap.size) :
    OwnRow (fun b => S b ∨ (w.heap.size ≤ b ∧ b < w'.heap.size)) w' T k v' m ys ∧ Chg S w w' := by
  refine ⟨OwnRow.of_owns h' (fun g hgb => ?_), (Chg.refl S w).grown hg (fun g hgb => .inl (h.block g hgb).1)⟩
  have hlt' := hlt g hgb
  rcases hl with e | e
  · rw [e] at hgb; exact .inl (h.block g hgb).1
  · rw [e] at hgb; cases hgb; exact .inr ⟨Nat.le_refl _, hlt'⟩
end

/-- the blocks of S, and those that are new between two worlds -/
def Plus (S : Nat → Prop) (w w' : World) : Nat → Prop := fun b => S b ∨ (w.heap.size ≤ b ∧ b < w'.heap.size)
theorem Plus.self {S : Nat → Prop} {w : World} {b : Nat} (h : Plus S w w b) : S b := by rcases h with h | h; exact h; omega
theorem Plus.up {S : Nat → Prop} {w w1 w2 : World} {b : Nat} (h : Plus S w w1 b) (hl : w1.heap.size ≤ w2.heap.size) : Plus S w w2 b := by
  rcases h with h | h
  · exact .inl h
  · exact .inr ⟨h.1, by omega⟩
theorem Plus.lim {S : Nat → Prop} {w w' : World} (h : ∀ b, S b → b < w.heap.size) (hl : w.heap.size ≤ w'.heap.size) : ∀ b, Plus S w w' b → b < w'.heap.size := fun b hb => by
  rcases hb with hb | hb
  · exact Nat.lt_of_lt_of_le (h b hb) hl
  · exact hb.2
theorem Plus.trans {S : Nat → Prop} {w w1 w2 : World} {b : Nat} (h : Plus (Plus S w w1) w1 w2 b) (h1 : w.heap.size ≤ w1.heap.size) (h2 : w1.heap.size ≤ w2.heap.size) : Plus S w w2 b := by
  rcases h with h | h
  · exact h.up h2
  · exact .inr ⟨by omega, h.2⟩

theorem Chg.plus {S : Nat → Prop} {w w1 w2 : World} (h : Chg S w w1) (k : Chg (Plus S w w1) w1 w2) : Chg S w w2 := h.step k fun g hg => by
  rcases hg with hg | hg
  · exact .inl hg
  · exact .inr hg.1
theorem OwnRow.app {S : Nat → Prop} {w w' : World} {T : TypeId} {k : Nat} {v : Value} {n : Nat} {xs : List Value} {g cap m : Nat} {ys : List Value} (h : OwnRow S w T k v n xs)
    (h1 : w'.ownsRow 0 T k (.slice (some ⟨g, 0, none⟩) (n + m) cap) (n + m) (xs ++ ys)) (hg : w.grownBy w' v.ownBlock) (ho : v.ownBlock = some g ∨ g = w.heap.size) (hlt : g < w'.heap.size) :
    OwnRow (Plus S w w') w' T k (.slice (some ⟨g, 0, none⟩) (n + m) cap) (n + m) (xs ++ ys) ∧ Chg S w w' := by
  refine h.grown hg h1 ?_ (fun b hb => by simp [Value.ownBlock] at hb; omega)
  rcases ho with e | e
  · left; rw [e]; rfl
  · right; rw [e]; rfl
/-- a store elsewhere -/
theorem OwnRow.aside {S : Nat → Prop} {w : World} {T : TypeId} {k : Nat} {v : Value} {n : Nat} {xs : List Value} (h : OwnRow S w T k v n xs) {p : Addr} (hp : ∀ b, v.ownBlock = some b → b ≠ p.block) (u : Value) : OwnRow S (w.setCell p u) T k v n xs := by
  refine ⟨h.1, ?_⟩
  rcases h.2 with hn | ⟨g, cap, e, hS, h3, h4, h5⟩
  · exact .inl hn
  · exact .inr ⟨g, cap, e, hS, h3, h4, h5.other (hp g (by rw [e]; rfl)) u⟩
theorem OwnRow.apartAt {S : Nat → Prop} {w : World} {T : TypeId} {k : Nat} {v : Value} {n : Nat} {xs : List Value} (h : OwnRow S w T k v n xs) {g : Nat} {T' : TypeId} {cs : Array Value} (h' : At w g T' cs) (hne : T ≠ T') : ∀ b, v.ownBlock = some b → b ≠ g := by
  intro b hb
  rcases h.2 with ⟨rfl, _⟩ | ⟨g', cap, rfl, _, _, _, h5⟩
  · simp [Value.ownBlock] at hb
  · simp [Value.ownBlock] at hb; subst hb; exact h5.apartAt h' hne
/-- the cells of a block that was just made -/
theorem new_cells (w : World) (cs : Array Value) (T : TypeId) : ∀ (j : Nat) (u : Value), cs.toList[j]? = some u → (w.alloc (.cells cs T)).cell? ((⟨w.heap.size, 0, none⟩ : Addr).add j) = some u :=
  World.news_of_block (heap_alloc_new w _)
theorem new_cells_at {w : World} {cs : Array Value} {T : TypeId} {H : Nat} (hH : w.heap.size = H) : ∀ (j : Nat) (u : Value), cs.toList[j]? = some u → (w.alloc (.cells cs T)).drew.cell? ((⟨H, 0, none⟩ : Addr).add j) = some u := by
  subst hH; exact new_cells w cs T
theorem size_put (w : World) (p : Addr) (u : Value) : (w.setCell p u).heap.size = w.heap.size := by simp [World.setCell]

/-- several cells in a row are stored -/
theorem RowIn.puts {g : Nat} {T : TypeId} {size : Nat} : ∀ (vs : List Value) (o : Nat) {w : World} {xs : List Value}, RowIn w g T size xs → o + vs.length ≤ xs.length → RowIn (w.setCells g o vs) g T size (xs.take o ++ vs ++ xs.drop (o + vs.length))
  | [], o, w, xs, h, _ => by simpa [World.setCells] using h
  | v :: vs, o, w, xs, h, hl => by
    have h1 : o < xs.length := by simp at hl; omega
    have h2 := RowIn.puts vs (o + 1) (h.put h1 v) (by rw [List.length_set]; simp at hl; omega)
    have e : (xs.set o v).take (o + 1) ++ vs ++ (xs.set o v).drop (o + 1 + vs.length) = xs.take o ++ v :: vs ++ xs.drop (o + (v :: vs).length) := by
      rw [List.drop_set_of_lt (by omega), show (v :: vs).length = vs.length + 1 by simp, show o + 1 + vs.length = o + (vs.length + 1) by omega]
      have : (xs.set o v).take (o + 1) = xs.take o ++ [v] := by
        rw [List.take_add_one, List.take_set_of_le (Nat.le_refl o)]
        simp [h1]
      rw [this]; simp
    rw [e] at h2
    exact h2
theorem Chg.puts {S : Nat → Prop} {a : World} {g : Nat} (hg : S g ∨ a.heap.size ≤ g) : ∀ (vs : List Value) (o : Nat) {w : World}, Chg S a w → Chg S a (w.setCells g o vs)
  | [], _, _, h => h
  | v :: vs, o, w, h => Chg.puts hg vs (o + 1) (h.put (p := ⟨g, o, none⟩) hg v)

section
variable {α : Type} {enc : α → List Value} {k : Nat}
/-- a list of structs in memory: nil, or from an address on -/
def ListIn (w : World) (k : Nat) (enc : α → List Value) (v : Value) (l : List α) : Prop :=
  ∃ A cap, v = .slice A l.length cap ∧ (0 < l.length → ∃ b off, A = some ⟨b, off, none⟩ ∧ b < w.heap.size ∧ ∀ (i : Nat) (a : α) (j : Nat) (u : Value), l[i]? = some a → (enc a)[j]? = some u → w.cell? ⟨b, off + i * k + j, none⟩ = some u)
theorem ListIn.below {w w' : World} {B : Nat} {v : Value} {l : List α} (h : ListIn w k enc v l) (hb : Below B w w') (hB : w.heap.size ≤ B) : ListIn w' k enc v l := by
  obtain ⟨A, cap, e, hc⟩ := h
  refine ⟨A, cap, e, fun h0 => ?_⟩
  obtain ⟨b, off, e1, hlt, h2⟩ := hc h0
  exact ⟨b, off, e1, Nat.lt_of_lt_of_le hlt hb.size, fun i a j u h3 h4 => (hb.cell (p := ⟨b, off + i * k + j, none⟩) (by show b < B; omega)).trans (h2 i a j u h3 h4)⟩
theorem flat_length (hk : ∀ a, (enc a).length = k) (l : List α) : (l.flatMap enc).length = l.length * k := by
  induction l with
  | nil => simp
  | cons a l ih => rw [List.flatMap_cons, List.length_append, hk, ih, List.length_cons, Nat.succ_mul]; omega
theorem flat_get (hk : ∀ a, (enc a).length = k) : ∀ {l : List α} {i j : Nat} {a : α} {u : Value}, l[i]? = some a → (enc a)[j]? = some u → (l.flatMap enc)[i * k + j]? = some u
  | [], i, j, a, u, h, _ => by simp at h
  | b :: l, 0, j, a, u, h, hu => by
    simp at h; subst h
    have hj : j < (enc b).length := by
      rcases Nat.lt_or_ge j (enc b).length with hl | hl
      · exact hl
      · rw [List.getElem?_eq_none hl] at hu; cases hu
    rw [List.flatMap_cons, Nat.zero_mul, Nat.zero_add, List.getElem?_append_left hj]; exact hu
  | b :: l, i + 1, j, a, u, h, hu => by
    rw [List.flatMap_cons, List.getElem?_append_right (by rw [hk, Nat.succ_mul]; omega), hk, show (i + 1) * k + j - k = i * k + j by rw [Nat.succ_mul]; omega]
    exact flat_get hk (by simpa using h) hu
theorem flat_set (hk : ∀ a, (enc a).length = k) : ∀ {l : List α} {i j : Nat} {a a' : α} {u : Value}, l[i]? = some a → j < k → (enc a).set j u = enc a' → (l.flatMap enc).set (i * k + j) u = (l.set i a').flatMap enc
  | [], i, j, a, a', u, h, _, _ => by simp at h
  | b :: l, 0, j, a, a', u, h, hj, hu => by
    simp at h; subst h
    rw [List.flatMap_cons, Nat.zero_mul, Nat.zero_add, List.set_append_left _ _ (by rw [hk]; exact hj), hu]; rfl
  | b :: l, i + 1, j, a, a', u, h, hj, hu => by
    rw [List.flatMap_cons, List.set_append_right _ _ (by rw [hk, Nat.succ_mul]; omega), hk, show (i + 1) * k + j - k = i * k + j by rw [Nat.succ_mul]; omega,
      flat_set hk (by simpa using h) hj hu]; rfl
theorem flat_take (hk : ∀ a, (enc a).length = k) : ∀ (l : List α) (n : Nat), (l.flatMap enc).take (n * k) = (l.take n).flatMap enc
  | [], n => by simp
  | b :: l, 0 => by simp
  | b :: l, n + 1 => by
    rw [List.flatMap_cons, List.take_succ_cons, List.flatMap_cons, List.take_append, hk, List.take_of_length_le (by rw [hk, Nat.succ_mul]; omega), show (n + 1) * k - k = n * k by rw [Nat.succ_mul]; omega, flat_take hk l n]
theorem flat_drop (hk : ∀ a, (enc a).length = k) : ∀ (l : List α) (n : Nat), (l.flatMap enc).drop (n * k) = (l.drop n).flatMap enc
  | [], n => by simp
  | b :: l, 0 => by simp
  | b :: l, n + 1 => by
    rw [List.flatMap_cons, List.drop_succ_cons, List.drop_append, hk, List.drop_eq_nil_of_le (by rw [hk, Nat.succ_mul]; omega), show (n + 1) * k - k = n * k by rw [Nat.succ_mul]; omega, flat_drop hk l n, List.nil_append]
theorem flat_lt (hk : ∀ a, (enc a).length = k) {l : List α} {i j : Nat} (hi : i < l.length) (hj : j < k) : i * k + j < (l.flatMap enc).length := by
  rw [flat_length hk]
  calc i * k + j < i * k + k := by omega
    _ = (i + 1) * k := by rw [Nat.succ_mul]
    _ ≤ l.length * k := Nat.mul_le_mul_right _ hi
theorem OwnRow.list {S : Nat → Prop} {w : World} {T : TypeId} {v : Value} {l : List α} (hk : ∀ a, (enc a).length = k) (h : OwnRow S w T k v l.length (l.flatMap enc)) : ListIn w k enc v l := by
  obtain ⟨A, cap, e, _, _, hc⟩ := h.slice
  refine ⟨A, cap, e, fun h0 => ?_⟩
  obtain ⟨g, e1, _, hr⟩ := hc h0
  exact ⟨g, 0, e1, hr.inside, fun i a j u h3 h4 => by rw [Nat.zero_add]; exact hr.cell (flat_get hk h3 h4)⟩
theorem flat_erase (hk : ∀ a, (enc a).length = k) (l : List α) (i : Nat) : (l.eraseIdx i).flatMap enc = (l.flatMap enc).take (i * k) ++ (l.flatMap enc).drop ((i + 1) * k) := by
  rw [List.eraseIdx_eq_take_drop_succ, List.flatMap_append, flat_take hk, flat_drop hk]
theorem get_lt {l : List α} {i : Nat} {a : α} (h : l[i]? = some a) : i < l.length := by
  rcases Nat.lt_or_ge i l.length with hl | hl
  · exact hl
  · rw [List.getElem?_eq_none hl] at h; cases h
theorem get_some (l : List α) {i : Nat} (h : i < l.length) : ∃ a, l[i]? = some a := ⟨_, List.getElem?_eq_getElem h⟩
end
/-- two things in memory of the call's own, apart from each other -/
structure Two (w0 w : World) (S1 S2 : Nat → Prop) : Prop where
  dis : ∀ b, S1 b → ¬ S2 b
  one : ∀ b, S1 b → w0.heap.size ≤ b ∧ b < w.heap.size
  two : ∀ b, S2 b → w0.heap.size ≤ b ∧ b < w.heap.size
  below : Below w0.heap.size w0 w
section
variable {w0 w w1 : World} {S1 S2 : Nat → Prop}
theorem Two.left (h : Two w0 w S1 S2) (hc : Chg S1 w w1) : Two w0 w1 (Plus S1 w w1) S2 :=
  ⟨fun b hb h2 => by
      rcases hb with hb | hb
      · exact h.dis b hb h2
      · have := (h.two b h2).2; omega,
    fun b hb => by
      have := hc.size; have := h.below.size
      rcases hb with hb | hb
      · have := h.one b hb; omega
      · omega,
    fun b hb => by have := h.two b hb; have := hc.size; omega,
    h.below.trans (hc.below h.below.size (fun k hk hS => by have := (h.one k hS).1; omega))⟩
theorem Two.right (h : Two w0 w S1 S2) (hc : Chg S2 w w1) : Two w0 w1 S1 (Plus S2 w w1) :=
  ⟨fun b hb h2 => by
      rcases h2 with h2 | h2
      · exact h.dis b hb h2
      · have := (h.one b hb).2; omega,
    fun b hb => by have := h.one b hb; have := hc.size; omega,
    fun b hb => by
      have := hc.size; have := h.below.size
      rcases hb with hb | hb
      · have := h.two b hb; omega
      · omega,
    h.below.trans (hc.below h.below.size (fun k hk hS => by have := (h.two k hS).1; omega))⟩
theorem Two.none (h : Two w0 w S1 S2) (hc : Chg (fun _ => False) w w1) : Two w0 w1 S1 S2 :=
  ⟨h.dis, fun b hb => by have := h.one b hb; have := hc.size; omega, fun b hb => by have := h.two b hb; have := hc.size; omega, h.below.trans (hc.below h.below.size (fun k hk h => h))⟩
theorem Two.right3 (h : Two w0 w S1 S2) (hc : Chg S2 w w1) : Two w0 w1 S1 S2 :=
  ⟨h.dis, fun b hb => by have := h.one b hb; have := hc.size; omega, fun b hb => by have := h.two b hb; have := hc.size; omega, (h.right hc).below⟩
theorem Two.sub1 {S : Nat → Prop} (h : Two w0 w S1 S2) (hs : ∀ b, S b → S1 b) : Two w0 w S S2 := ⟨fun b hb => h.dis b (hs b hb), fun b hb => h.one b (hs b hb), h.two, h.below⟩
/-- a box of the walk's own -/
theorem At.stays {S : Nat → Prop} {w w1 : World} {g : Nat} {T : TypeId} {cs : Array Value} (h : At w g T cs) (hc : Chg S w w1) (hs : ∀ b, S b → b < g) : At w1 g T cs := h.chg hc (fun hS => Nat.lt_irrefl _ (hs g hS))
end
end Tide


namespace Tide
def idxOf (o : Option Nat) : Int := match o with | none => -1 | some i => (i : Int)
section
variable {α β : Type}
/-- the first k are turned -/
def upTo (f : α → α) (l : List α) (k : Nat) : List α := (l.take k).map f ++ l.drop k
theorem upTo_zero (f : α → α) (l : List α) : upTo f l 0 = l := by simp [upTo]
theorem upTo_all (f : α → α) (l : List α) : upTo f l l.length = l.map f := by simp [upTo]
theorem upTo_length (f : α → α) (l : List α) (k : Nat) : (upTo f l k).length = l.length := by simp [upTo]; omega
theorem upTo_get (f : α → α) (l : List α) (k : Nat) : (upTo f l k)[k]? = l[k]? := by
  unfold upTo
  rcases Nat.lt_or_ge k l.length with h | h
  · rw [List.getElem?_append_right (by simp; omega)]
    simp; rw [Nat.min_eq_left (by omega), Nat.sub_self]; simp
  · rw [List.getElem?_eq_none h, List.getElem?_eq_none]; simp; omega
theorem drop_of_get {l : List α} {k : Nat} {a : α} (h : l[k]? = some a) : l.drop k = a :: l.drop (k + 1) := by
  have hl := get_lt h
  rw [List.drop_eq_getElem_cons hl]
  congr
  rw [List.getElem?_eq_getElem hl] at h; exact Option.some.inj h
theorem take_of_get {l : List α} {k : Nat} {a : α} (h : l[k]? = some a) : l.take (k + 1) = l.take k ++ [a] := by
  rw [List.take_add_one, h]; rfl
theorem upTo_succ {f : α → α} {l : List α} {k : Nat} {a : α} (h : l[k]? = some a) : (upTo f l k).set k (f a) = upTo f l (k + 1) := by
  have hl := get_lt h
  unfold upTo
  have e : k - (List.map f (List.take k l)).length = 0 := by simp; omega
  rw [drop_of_get h, take_of_get h, List.map_append, List.append_assoc, List.set_append_right _ _ (by simp; omega), e]
  simp
theorem upTo_same {f : α → α} {l : List α} {k : Nat} {a : α} (h : l[k]? = some a) (hf : f a = a) : upTo f l (k + 1) = upTo f l k := by
  unfold upTo
  rw [drop_of_get h, take_of_get h, List.map_append, List.append_assoc]
  simp [hf]
/-- the place of the first for which p holds -/
def firstAt (p : α → Bool) (l : List α) : Option Nat := l.findIdx? p
theorem firstAt_none {p : α → Bool} {l : List α} (h : ∀ (k : Nat) (a : α), l[k]? = some a → p a = false) : firstAt p l = none := by
  unfold firstAt
  rw [List.findIdx?_eq_none_iff]
  intro x hx
  obtain ⟨k, hk, e⟩ := List.mem_iff_getElem.1 hx
  exact h k x (by rw [List.getElem?_eq_getElem hk, e])
theorem firstAt_some {p : α → Bool} {l : List α} {i : Nat} {a : α} (h : ∀ (k : Nat) (b : α), k < i → l[k]? = some b → p b = false) (hi : l[i]? = some a) (ha : p a = true) : firstAt p l = some i := by
  unfold firstAt
  have hl := get_lt hi
  rw [List.findIdx?_eq_some_iff_getElem]
  rw [List.getElem?_eq_getElem hl] at hi
  refine ⟨hl, by rw [Option.some.inj hi]; exact ha, fun j hj => ?_⟩
  have := h j _ hj (List.getElem?_eq_getElem (by omega))
  simp [this]
theorem firstAt_spec {p : α → Bool} {l : List α} {i : Nat} (h : firstAt p l = some i) : ∃ a, l[i]? = some a ∧ p a = true ∧ ∀ (k : Nat) (b : α), k < i → l[k]? = some b → p b = false := by
  unfold firstAt at h
  rw [List.findIdx?_eq_some_iff_getElem] at h
  obtain ⟨hl, hp, hj⟩ := h
  refine ⟨_, List.getElem?_eq_getElem hl, hp, fun k b hk hb => ?_⟩
  have := hj k hk
  rw [List.getElem?_eq_getElem (by omega)] at hb
  rw [Option.some.inj hb] at this
  simpa using this
theorem firstAt_miss {p : α → Bool} {l : List α} (h : firstAt p l = none) : ∀ (k : Nat) (a : α), l[k]? = some a → p a = false := by
  unfold firstAt at h
  rw [List.findIdx?_eq_none_iff] at h
  exact fun k a ha => h a (List.mem_of_getElem? ha)
theorem count_snoc {p : α → Bool} {l : List α} {k : Nat} {a : α} (h : l[k]? = some a) : (l.take (k + 1)).countP p = (l.take k).countP p + if p a then 1 else 0 := by
  rw [take_of_get h, List.countP_append]
  simp [List.countP_cons, List.countP_nil]
theorem filter_snoc {p : α → Bool} {l : List α} {k : Nat} {a : α} (h : l[k]? = some a) : (l.take (k + 1)).filter p = (l.take k).filter p ++ if p a then [a] else [] := by
  rw [take_of_get h, List.filter_append]
  cases hp : p a <;> simp [hp]
end
end Tide
