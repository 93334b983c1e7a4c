/- Parts of this claim: Mem, Row, Lst, TxtM, CronM, CronC, NumM. -/
import Derived.Test.YtoidcbpcnikejaaGreatDoorTj
import Derived.WalkKit
import Derived.Deep.Draws
import Derived.Deep.AppendLies
import Derived.Lib.SplitLaws
import Derived.Lib.IndexBytes
import Derived.Laws.BitsAllLaws
import Derived.WalkSpells
import Derived.WalkLawsBesides
import Derived.Lib.Hide
import Derived.Handy
import Derived.Deep.QuietTactic
import Derived.BigQuiet
import Derived.BigRegion
import Derived.Test.YtoidcbpcnikejaaGreatDoorRows
set_option linter.unusedVariables false
set_option linter.unusedSimpArgs false
set_option maxRecDepth 100000
set_option maxHeartbeats 12800000
namespace G
open Go Go.RowKit
def At (w : World) (g : Nat) (t : TypeId) (cs : Array Value) : Prop := w.heap[g]? = some (.cells cs t (0, 0))
section
variable {w w' : World} {g : Nat} {t : TypeId} {cs : Array Value}
theorem At.inside (h : At w g t cs) : g < w.heap.size := by
 rcases Nat.lt_or_ge g w.heap.size with hl | hl
 ·exact hl
 unfold At at h; rw [Array.getElem?_eq_none hl] at h; exact absurd h (by simp)
theorem At.here {i : Nat} {v : Value} (h : At w g t cs) (hv : cs[i]? = some v) : w.cell? ⟨g, i, none⟩ = some v := (cell_of_row w g i cs t (0, 0) h).trans hv
theorem At.soft (h : At w g t cs) (i : Nat) : w.frozen? ⟨g, i, none⟩ = false := by
 have h' : w.heap[g]? = some (.cells cs t (0, 0)) := h
 simp [World.frozen?, h']
theorem At.made (w : World) (t : TypeId) (cs : Array Value) : At (w.alloc (.cells cs t)) w.heap.size t cs := heap_alloc_new w _
theorem At.alloc (h : At w g t cs) (o : Obj) : At (w.alloc o) g t cs := (Below.heap_alloc w o g h.inside).trans h
theorem At.drew (h : At w g t cs) : At w.drew g t cs := h
theorem At.drewN (h : At w g t cs) (n : Nat) : At (w.drewN n) g t cs := h
theorem At.put (h : At w g t cs) (i : Nat) (u : Value) : At (w.setCell ⟨g, i, none⟩ u) g t (cs.setIfInBounds i u) := by
 have h' : w.heap[g]? = some (.cells cs t (0, 0)) := h
 show (w.setCell ⟨g, i, none⟩ u).heap[g]? = _
 simp [World.setCell, Array.getElem?_modify, h']
theorem At.other (h : At w g t cs) {p : Addr} (hp : g ≠ p.block) (u : Value) : At (w.setCell p u) g t cs := (Below.heap_setCell w p u g hp).trans h
theorem At.below {B : Nat} (h : At w g t cs) (hb : Below B w w') (hg : g < B) : At w' g t cs := (hb.block g hg).trans h
theorem At.same_of {cs' : Array Value} {t' : TypeId} (h : At w g t cs) (h' : At w g t' cs') : t = t' ∧ cs = cs' := by
 have e : some (Obj.cells cs t (0, 0)) = some (Obj.cells cs' t' (0, 0)) := Eq.trans (Eq.symm h) h'
 injection e with e
 injection e with e1 e2
 exact ⟨e2, e1⟩
theorem At.apart {g' : Nat} {cs' : Array Value} {t' : TypeId} (h : At w g t cs) (h' : At w g' t' cs') (hne : t ≠ t') : g ≠ g' := by
 rintro rfl; exact hne (h.same_of h').1
end
structure Chg (S : Nat → Prop) (w w' : World) : Prop where
 os : w'.os = w.os
 tape : w'.tape = w.tape
 output : w'.output = w.output
 size : w.heap.size ≤ w'.heap.size
 block : ∀ k, k < w.heap.size → ¬ S k → w'.heap[k]? = w.heap[k]?
section
variable {S S' : Nat → Prop} {a w w' : World}
theorem Chg.refl (S : Nat → Prop) (w : World) : Chg S w w := ⟨rfl, rfl, rfl, Nat.le_refl _, fun _ _ _ => rfl⟩
theorem Chg.trans (h : Chg S a w) (k : Chg S w w') : Chg S a w' :=
 ⟨k.os.trans h.os, k.tape.trans h.tape, k.output.trans h.output, Nat.le_trans h.size k.size, fun i hi hs => (k.block i (Nat.lt_of_lt_of_le hi h.size) hs).trans (h.block i hi hs)⟩
theorem Chg.mono (h : Chg S w w') (hs : ∀ k, k < w.heap.size → S k → S' k) : Chg S' w w' := ⟨h.os, h.tape, h.output, h.size, fun k hk hn => h.block k hk (fun c => hn (hs k hk c))⟩
theorem Chg.drew (h : Chg S a w) : Chg S a w.drew := ⟨h.os, h.tape, h.output, h.size, h.block⟩
theorem Chg.drewN (h : Chg S a w) (n : Nat) : Chg S a (w.drewN n) := ⟨h.os, h.tape, h.output, h.size, h.block⟩
theorem Chg.alloc (h : Chg S a w) (o : Obj) : Chg S a (w.alloc o) :=
 ⟨h.os, h.tape, h.output, Nat.le_trans h.size (by simp), fun k hk hs => (Below.heap_alloc w o k (Nat.lt_of_lt_of_le hk h.size)).trans (h.block k hk hs)⟩
theorem Chg.put (h : Chg S a w) {p : Addr} (hp : S p.block ∨ a.heap.size ≤ p.block) (u : Value) : Chg S a (w.setCell p u) :=
 ⟨h.os, h.tape, h.output, by simpa [World.setCell] using h.size, fun k hk hs => (Below.heap_setCell w p u k (by
  rintro rfl
  rcases hp with c | c
  ·exact hs c
  omega)).trans (h.block k hk hs)⟩
theorem Chg.grown {row : Option Nat} (h : Chg S a w) (hg : w.grownBy w' row) (hr : ∀ g, row = some g → S g ∨ a.heap.size ≤ g) : Chg S a w' :=
 ⟨hg.os.trans h.os, hg.tape.trans h.tape, hg.output.trans h.output, Nat.le_trans h.size hg.size, fun k hk hs => (hg.block k (Nat.lt_of_lt_of_le hk h.size) (fun e => by
  rcases hr k e.symm with c | c
  ·exact hs c
  omega)).trans (h.block k hk hs)⟩
theorem Chg.step {S1 : Nat → Prop} (h : Chg S a w) (k : Chg S1 w w') (hs : ∀ g, S1 g → S g ∨ a.heap.size ≤ g) : Chg S a w' :=
 ⟨k.os.trans h.os, k.tape.trans h.tape, k.output.trans h.output, Nat.le_trans h.size k.size, fun i hi hn => (k.block i (Nat.lt_of_lt_of_le hi h.size) (fun c => by
  rcases hs i c with d | d
  ·exact hn d
  omega)).trans (h.block i hi hn)⟩
theorem Chg.of_below {B : Nat} (h : Below B w w') (hB : w.heap.size ≤ B) : Chg S w w' := ⟨h.os, h.tape, h.output, h.size, fun k hk _ => h.block k (by omega)⟩
theorem Chg.step_below {B : Nat} (h : Chg S a w) (k : Below B w w') (hB : a.heap.size ≤ B) : Chg S a w' :=
 ⟨k.os.trans h.os, k.tape.trans h.tape, k.output.trans h.output, Nat.le_trans h.size k.size, fun i hi hn => (k.block i (by omega)).trans (h.block i hi hn)⟩
theorem Chg.below {B : Nat} (h : Chg S w w') (hB : B ≤ w.heap.size) (hs : ∀ k, k < B → ¬ S k) : Below B w w' := ⟨h.os, h.tape, h.output, h.size, fun k hk => h.block k (by omega) (hs k hk)⟩
theorem At.chg {g : Nat} {t : TypeId} {cs : Array Value} (h : At w g t cs) (hc : Chg S w w') (hs : ¬ S g) : At w' g t cs := (hc.block g h.inside hs).trans h
theorem At.grown {g : Nat} {t : TypeId} {cs : Array Value} {row : Option Nat} (h : At w g t cs) (hg : w.grownBy w' row) (hn : row ≠ some g) : At w' g t cs := (hg.block g h.inside (fun e => hn e.symm)).trans h
end
theorem own_ge {w : World} {B : Nat} {e : TypeId} {s : Nat} {v : Value} {n : Nat} {xs : List Value} (h : w.ownsRow B e s v n xs) : ∀ g, v.ownBlock = some g → B ≤ g := by
 intro g hg
 rcases h.2 with ⟨rfl, _⟩ | ⟨g', cap, cur, rfl, hb, _⟩
 ·simp [Value.ownBlock] at hg
 simp [Value.ownBlock] at hg; omega
theorem new_one {w : World} {T : TypeId} {v : Value} {g : Nat} (hg : g = w.heap.size) : ∀ (j : Nat) (u : Value), [v][j]? = some u → (w.alloc (.cells #[v] T)).cell? ((⟨g, 0, none⟩ : Addr).add j) = some u := by
 intro j u hu
 subst hg
 rcases j with _ | j
 ·simp at hu; subst hu
  show (w.alloc (.cells #[v] T)).cell? ⟨w.heap.size, 0, none⟩ = some v
  simp
 simp at hu
end G
namespace G
open Go Go.RowKit
def RowIn (w : World) (g : Nat) (T : TypeId) (size : Nat) (xs : List Value) : Prop := ∃ cur, At w g T cur ∧ cur.size = size ∧ xs.length ≤ size ∧ cur.toList.take xs.length = xs
section
variable {w w' : World} {g : Nat} {T : TypeId} {size : Nat} {xs : List Value}
theorem RowIn.inside (h : RowIn w g T size xs) : g < w.heap.size := by obtain ⟨cur, h1, _⟩ := h; exact h1.inside
theorem RowIn.cell {i : Nat} {v : Value} (h : RowIn w g T size xs) (hv : xs[i]? = some v) : w.cell? ⟨g, i, none⟩ = some v := by
 obtain ⟨cur, h1, h2, h3, h4⟩ := h
 have hlt : i < xs.length := by
  rcases Nat.lt_or_ge i xs.length with hl | hl
  ·exact hl
  rw [List.getElem?_eq_none hl] at hv; cases hv
 refine h1.here ?_
 rw [← Array.getElem?_toList, ← hv]
 conv => rhs; rw [← h4]
 rw [List.getElem?_take, if_pos hlt]
theorem RowIn.soft (h : RowIn w g T size xs) (i : Nat) : w.frozen? ⟨g, i, none⟩ = false := by obtain ⟨cur, h1, _⟩ := h; exact h1.soft i
theorem RowIn.alloc (h : RowIn w g T size xs) (o : Obj) : RowIn (w.alloc o) g T size xs := by obtain ⟨cur, h1, h2⟩ := h; exact ⟨cur, h1.alloc o, h2⟩
theorem RowIn.drew (h : RowIn w g T size xs) : RowIn w.drew g T size xs := h
theorem RowIn.drewN (h : RowIn w g T size xs) (n : Nat) : RowIn (w.drewN n) g T size xs := h
theorem RowIn.other (h : RowIn w g T size xs) {p : Addr} (hp : g ≠ p.block) (u : Value) : RowIn (w.setCell p u) g T size xs := by obtain ⟨cur, h1, h2⟩ := h; exact ⟨cur, h1.other hp u, h2⟩
theorem RowIn.put (h : RowIn w g T size xs) {i : Nat} (hi : i < xs.length) (u : Value) : RowIn (w.setCell ⟨g, i, none⟩ u) g T size (xs.set i u) := by
 obtain ⟨cur, h1, h2, h3, h4⟩ := h
 refine ⟨_, h1.put i u, by simpa using h2, by simpa using h3, ?_⟩
 rw [List.length_set]
 show (cur.setIfInBounds i u).toList.take xs.length = xs.set i u
 rw [Array.toList_setIfInBounds, List.take_set, h4]
theorem RowIn.chg {S : Nat → Prop} (h : RowIn w g T size xs) (hc : Chg S w w') (hs : ¬ S g) : RowIn w' g T size xs := by obtain ⟨cur, h1, h2⟩ := h; exact ⟨cur, h1.chg hc hs, h2⟩
theorem RowIn.below {B : Nat} (h : RowIn w g T size xs) (hb : Below B w w') (hg : g < B) : RowIn w' g T size xs := by obtain ⟨cur, h1, h2⟩ := h; exact ⟨cur, h1.below hb hg, h2⟩
theorem RowIn.fewer (h : RowIn w g T size xs) (n : Nat) : RowIn w g T size (xs.take n) := by
 obtain ⟨cur, h1, h2, h3, h4⟩ := h
 refine ⟨cur, h1, h2, by simp; omega, ?_⟩
 conv => rhs; rw [← h4]
 rw [List.take_take, List.length_take]
theorem RowIn.apart {g' : Nat} {T' : TypeId} {size' : Nat} {xs' : List Value} (h : RowIn w g T size xs) (h' : RowIn w g' T' size' xs') (hne : T ≠ T') : g ≠ g' := by
 obtain ⟨cur, h1, _⟩ := h; obtain ⟨cur', h1', _⟩ := h'; exact h1.apart h1' hne
theorem RowIn.apartAt {g' : Nat} {T' : TypeId} {cs : Array Value} (h : RowIn w g T size xs) (h' : At w g' T' cs) (hne : T ≠ T') : g ≠ g' := by
 obtain ⟨cur, h1, _⟩ := h; exact h1.apart h' hne
theorem At.row {cs : Array Value} (h : At w g T cs) : RowIn w g T cs.size cs.toList := ⟨cs, h, rfl, by simp, List.take_of_length_le (Nat.le_refl _)⟩
end
def OwnRow (S : Nat → Prop) (w : World) (T : TypeId) (k : Nat) (v : Value) (n : Nat) (xs : List Value) : Prop :=
 xs.length = n * k ∧ ((v = .slice none 0 0 ∧ n = 0) ∨ ∃ g cap, v = .slice (some ⟨g, 0, none⟩) n cap ∧ S g ∧ n ≤ cap ∧ cap ≤ maxLen ∧ RowIn w g T (cap * k) xs)
section
variable {S S' : Nat → Prop} {w w' : World} {T : TypeId} {k : Nat} {v : Value} {n : Nat} {xs : List Value}
theorem OwnRow.nil (S : Nat → Prop) (w : World) (T : TypeId) (k : Nat) : OwnRow S w T k (.slice none 0 0) 0 [] := ⟨by simp, .inl ⟨rfl, rfl⟩⟩
theorem OwnRow.mono (h : OwnRow S w T k v n xs) (hs : ∀ g, g < w.heap.size → S g → S' g) : OwnRow S' w T k v n xs := by
 refine ⟨h.1, ?_⟩
 rcases h.2 with hn | ⟨g, cap, e, hS, h3, h4, h5⟩
 ·exact .inl hn
 exact .inr ⟨g, cap, e, hs g h5.inside hS, h3, h4, h5⟩
theorem OwnRow.form (h : OwnRow S w T k v n xs) (hn : 0 < n) : ∃ g cap, v = .slice (some ⟨g, 0, none⟩) n cap ∧ S g ∧ n ≤ cap ∧ cap ≤ maxLen ∧ RowIn w g T (cap * k) xs := by
 rcases h.2 with ⟨_, h0⟩ | h1
 ·omega
 exact h1
theorem OwnRow.slice (h : OwnRow S w T k v n xs) : ∃ A cap, v = .slice A n cap ∧ n ≤ cap ∧ cap ≤ maxLen ∧ (0 < n → ∃ g, A = some ⟨g, 0, none⟩ ∧ S g ∧ RowIn w g T (cap * k) xs) := by
 rcases h.2 with ⟨rfl, rfl⟩ | ⟨g, cap, e, hS, h3, h4, h5⟩
 ·exact ⟨none, 0, rfl, Nat.le_refl 0, Nat.zero_le _, fun h => by omega⟩
 exact ⟨_, cap, e, h3, h4, fun _ => ⟨g, rfl, hS, h5⟩⟩
theorem OwnRow.alloc (h : OwnRow S w T k v n xs) (o : Obj) : OwnRow S (w.alloc o) T k v n xs := by
 refine ⟨h.1, ?_⟩
 rcases h.2 with hn | ⟨g, cap, e, hS, h3, h4, h5⟩
 ·exact .inl hn
 exact .inr ⟨g, cap, e, hS, h3, h4, h5.alloc o⟩
theorem OwnRow.drew (h : OwnRow S w T k v n xs) : OwnRow S w.drew T k v n xs := h
theorem OwnRow.drewN (h : OwnRow S w T k v n xs) (m : Nat) : OwnRow S (w.drewN m) T k v n xs := h
theorem OwnRow.chg {C : Nat → Prop} (h : OwnRow S w T k v n xs) (hc : Chg C w w') (hs : ∀ g, S g → ¬ C g) : OwnRow S w' T k v n xs := by
 refine ⟨h.1, ?_⟩
 rcases h.2 with hn | ⟨g, cap, e, hS, h3, h4, h5⟩
 ·exact .inl hn
 exact .inr ⟨g, cap, e, hS, h3, h4, h5.chg hc (hs g hS)⟩
theorem OwnRow.below {B : Nat} (h : OwnRow S w T k v n xs) (hb : Below B w w') (hB : w.heap.size ≤ B) : OwnRow S w' T k v n xs :=
 h.chg (C := fun _ => False) (Chg.of_below hb hB) (fun _ _ h => h)
theorem OwnRow.other (h : OwnRow S w T k v n xs) {p : Addr} (hp : ¬ S p.block) (u : Value) : OwnRow S (w.setCell p u) T k v n xs :=
 h.chg ((Chg.refl (· = p.block) w).put (.inl rfl) u) (fun g hg e => hp (e ▸ hg))
theorem OwnRow.owns (h : OwnRow S w T k v n xs) : w.ownsRow 0 T k v n xs := by
 refine ⟨h.1, ?_⟩
 rcases h.2 with hn | ⟨g, cap, e, hS, h3, h4, cur, h5, h6, h7, h8⟩
 ·exact .inl hn
 exact .inr ⟨g, cap, cur, e, Nat.zero_le _, h5, h3, h4, h6, by rw [← h.1]; exact h8⟩
theorem OwnRow.block (h : OwnRow S w T k v n xs) : ∀ g, v.ownBlock = some g → S g ∧ g < w.heap.size := by
 intro g hg
 rcases h.2 with ⟨rfl, _⟩ | ⟨g', cap, rfl, hS, _, _, h5⟩
 ·simp [Value.ownBlock] at hg
 simp [Value.ownBlock] at hg; subst hg; exact ⟨hS, h5.inside⟩
theorem OwnRow.of_owns {B : Nat} (h : w.ownsRow B T k v n xs) (hs : ∀ g, v.ownBlock = some g → S g) : OwnRow S w T k v n xs := by
 refine ⟨h.1, ?_⟩
 rcases h.2 with hn | ⟨g, cap, cur, rfl, hb, h5, h3, h4, h6, h8⟩
 ·exact .inl hn
 refine .inr ⟨g, cap, rfl, hs g rfl, h3, h4, cur, h5, h6, ?_, ?_⟩
 ·rw [h.1]; exact Nat.mul_le_mul_right _ h3
 rw [h.1]; exact h8
theorem OwnRow.put {g cap : Nat} (h : OwnRow S w T k (.slice (some ⟨g, 0, none⟩) n cap) n xs) {i : Nat} (hi : i < xs.length) (u : Value) : OwnRow S (w.setCell ⟨g, i, none⟩ u) T k (.slice (some ⟨g, 0, none⟩) n cap) n (xs.set i u) := by
 refine ⟨by rw [List.length_set]; exact h.1, ?_⟩
 rcases h.2 with ⟨hn, _⟩ | ⟨g', cap', e, hS, h3, h4, h5⟩
 ·cases hn
 cases e; exact .inr ⟨_, _, rfl, hS, h3, h4, h5.put hi u⟩
theorem OwnRow.grown {v' : Value} {m : Nat} {ys : List Value} (h : OwnRow S w T k v n xs) (hg : w.grownBy w' v.ownBlock) (h' : w'.ownsRow 0 T k v' m ys) (hl : v'.ownBlock = v.ownBlock ∨ v'.ownBlock = some w.heap.size) (hlt : ∀ g, v'.ownBlock = some g → g < w'.heap.size) :
  OwnRow (fun b => S b ∨ (w.heap.size ≤ b ∧ b < w'.heap.size)) w' T k v' m ys ∧ Chg S w w' := by
 refine ⟨OwnRow.of_owns h' (fun g hgb => ?_), (Chg.refl S w).grown hg (fun g hgb => .inl (h.block g hgb).1)⟩
 have hlt' := hlt g hgb
 rcases hl with e | e
 ·rw [e] at hgb; exact .inl (h.block g hgb).1
 rw [e] at hgb; cases hgb; exact .inr ⟨Nat.le_refl _, hlt'⟩
end
def Plus (S : Nat → Prop) (w w' : World) : Nat → Prop := fun b => S b ∨ (w.heap.size ≤ b ∧ b < w'.heap.size)
theorem Plus.up {S : Nat → Prop} {w w1 w2 : World} {b : Nat} (h : Plus S w w1 b) (hl : w1.heap.size ≤ w2.heap.size) : Plus S w w2 b := by
 rcases h with h | h
 ·exact .inl h
 exact .inr ⟨h.1, by omega⟩
theorem Plus.lim {S : Nat → Prop} {w w' : World} (h : ∀ b, S b → b < w.heap.size) (hl : w.heap.size ≤ w'.heap.size) : ∀ b, Plus S w w' b → b < w'.heap.size := fun b hb => by
 rcases hb with hb | hb
 ·exact Nat.lt_of_lt_of_le (h b hb) hl
 exact hb.2
theorem Plus.trans {S : Nat → Prop} {w w1 w2 : World} {b : Nat} (h : Plus (Plus S w w1) w1 w2 b) (h1 : w.heap.size ≤ w1.heap.size) (h2 : w1.heap.size ≤ w2.heap.size) : Plus S w w2 b := by
 rcases h with h | h
 ·exact h.up h2
 exact .inr ⟨by omega, h.2⟩
theorem Chg.plus {S : Nat → Prop} {w w1 w2 : World} (h : Chg S w w1) (k : Chg (Plus S w w1) w1 w2) : Chg S w w2 := h.step k fun g hg => by
 rcases hg with hg | hg
 ·exact .inl hg
 exact .inr hg.1
theorem OwnRow.app {S : Nat → Prop} {w w' : World} {T : TypeId} {k : Nat} {v : Value} {n : Nat} {xs : List Value} {g cap m : Nat} {ys : List Value} (h : OwnRow S w T k v n xs)
  (h1 : w'.ownsRow 0 T k (.slice (some ⟨g, 0, none⟩) (n + m) cap) (n + m) (xs ++ ys)) (hg : w.grownBy w' v.ownBlock) (ho : v.ownBlock = some g ∨ g = w.heap.size) (hlt : g < w'.heap.size) :
  OwnRow (Plus S w w') w' T k (.slice (some ⟨g, 0, none⟩) (n + m) cap) (n + m) (xs ++ ys) ∧ Chg S w w' := by
 refine h.grown hg h1 ?_ (fun b hb => by simp [Value.ownBlock] at hb; omega)
 rcases ho with e | e
 ·left; rw [e]; rfl
 right; rw [e]; rfl
theorem OwnRow.aside {S : Nat → Prop} {w : World} {T : TypeId} {k : Nat} {v : Value} {n : Nat} {xs : List Value} (h : OwnRow S w T k v n xs) {p : Addr} (hp : ∀ b, v.ownBlock = some b → b ≠ p.block) (u : Value) : OwnRow S (w.setCell p u) T k v n xs := by
 refine ⟨h.1, ?_⟩
 rcases h.2 with hn | ⟨g, cap, e, hS, h3, h4, h5⟩
 ·exact .inl hn
 exact .inr ⟨g, cap, e, hS, h3, h4, h5.other (hp g (by rw [e]; rfl)) u⟩
theorem OwnRow.apartAt {S : Nat → Prop} {w : World} {T : TypeId} {k : Nat} {v : Value} {n : Nat} {xs : List Value} (h : OwnRow S w T k v n xs) {g : Nat} {T' : TypeId} {cs : Array Value} (h' : At w g T' cs) (hne : T ≠ T') : ∀ b, v.ownBlock = some b → b ≠ g := by
 intro b hb
 rcases h.2 with ⟨rfl, _⟩ | ⟨g', cap, rfl, _, _, _, h5⟩
 ·simp [Value.ownBlock] at hb
 simp [Value.ownBlock] at hb; subst hb; exact h5.apartAt h' hne
theorem new_cells (w : World) (cs : Array Value) (T : TypeId) : ∀ (j : Nat) (u : Value), cs.toList[j]? = some u → (w.alloc (.cells cs T)).cell? ((⟨w.heap.size, 0, none⟩ : Addr).add j) = some u :=
 World.news_of_block (heap_alloc_new w _)
theorem new_cells_at {w : World} {cs : Array Value} {T : TypeId} {H : Nat} (hH : w.heap.size = H) : ∀ (j : Nat) (u : Value), cs.toList[j]? = some u → (w.alloc (.cells cs T)).drew.cell? ((⟨H, 0, none⟩ : Addr).add j) = some u := by
 subst hH; exact new_cells w cs T
theorem size_put (w : World) (p : Addr) (u : Value) : (w.setCell p u).heap.size = w.heap.size := by simp [World.setCell]
theorem RowIn.puts {g : Nat} {T : TypeId} {size : Nat} : ∀ (vs : List Value) (o : Nat) {w : World} {xs : List Value}, RowIn w g T size xs → o + vs.length ≤ xs.length → RowIn (w.setCells g o vs) g T size (xs.take o ++ vs ++ xs.drop (o + vs.length))
 | [], o, w, xs, h, _ => by simpa [World.setCells] using h
 | v :: vs, o, w, xs, h, hl => by
  have h1 : o < xs.length := by simp at hl; omega
  have h2 := RowIn.puts vs (o + 1) (h.put h1 v) (by rw [List.length_set]; simp at hl; omega)
  have e : (xs.set o v).take (o + 1) ++ vs ++ (xs.set o v).drop (o + 1 + vs.length) = xs.take o ++ v :: vs ++ xs.drop (o + (v :: vs).length) := by
   rw [List.drop_set_of_lt (by omega), show (v :: vs).length = vs.length + 1 by simp, show o + 1 + vs.length = o + (vs.length + 1) by omega]
   have : (xs.set o v).take (o + 1) = xs.take o ++ [v] := by
    rw [List.take_add_one, List.take_set_of_le (Nat.le_refl o)]
    simp [h1]
   rw [this]; simp
  rw [e] at h2
  exact h2
theorem Chg.puts {S : Nat → Prop} {a : World} {g : Nat} (hg : S g ∨ a.heap.size ≤ g) : ∀ (vs : List Value) (o : Nat) {w : World}, Chg S a w → Chg S a (w.setCells g o vs)
 | [], _, _, h => h
 | v :: vs, o, w, h => Chg.puts hg vs (o + 1) (h.put (p := ⟨g, o, none⟩) hg v)
section
variable {α : Type} {enc : α → List Value} {k : Nat}
def ListIn (w : World) (k : Nat) (enc : α → List Value) (v : Value) (l : List α) : Prop :=
 ∃ A cap, v = .slice A l.length cap ∧ (0 < l.length → ∃ b off, A = some ⟨b, off, none⟩ ∧ b < w.heap.size ∧ ∀ (i : Nat) (a : α) (j : Nat) (u : Value), l[i]? = some a → (enc a)[j]? = some u → w.cell? ⟨b, off + i * k + j, none⟩ = some u)
theorem ListIn.below {w w' : World} {B : Nat} {v : Value} {l : List α} (h : ListIn w k enc v l) (hb : Below B w w') (hB : w.heap.size ≤ B) : ListIn w' k enc v l := by
 obtain ⟨A, cap, e, hc⟩ := h
 refine ⟨A, cap, e, fun h0 => ?_⟩
 obtain ⟨b, off, e1, hlt, h2⟩ := hc h0
 exact ⟨b, off, e1, Nat.lt_of_lt_of_le hlt hb.size, fun i a j u h3 h4 => (hb.cell (p := ⟨b, off + i * k + j, none⟩) (by show b < B; omega)).trans (h2 i a j u h3 h4)⟩
theorem flat_length (hk : ∀ a, (enc a).length = k) (l : List α) : (l.flatMap enc).length = l.length * k := by
 induction l with
 | nil => simp
 | cons a l ih => rw [List.flatMap_cons, List.length_append, hk, ih, List.length_cons, Nat.succ_mul]; omega
theorem flat_get (hk : ∀ a, (enc a).length = k) : ∀ {l : List α} {i j : Nat} {a : α} {u : Value}, l[i]? = some a → (enc a)[j]? = some u → (l.flatMap enc)[i * k + j]? = some u
 | [], i, j, a, u, h, _ => by simp at h
 | b :: l, 0, j, a, u, h, hu => by
  simp at h; subst h
  have hj : j < (enc b).length := by
   rcases Nat.lt_or_ge j (enc b).length with hl | hl
   ·exact hl
   rw [List.getElem?_eq_none hl] at hu; cases hu
  rw [List.flatMap_cons, Nat.zero_mul, Nat.zero_add, List.getElem?_append_left hj]; exact hu
 | b :: l, i + 1, j, a, u, h, hu => by
  rw [List.flatMap_cons, List.getElem?_append_right (by rw [hk, Nat.succ_mul]; omega), hk, show (i + 1) * k + j - k = i * k + j by rw [Nat.succ_mul]; omega]
  exact flat_get hk (by simpa using h) hu
theorem flat_set (hk : ∀ a, (enc a).length = k) : ∀ {l : List α} {i j : Nat} {a a' : α} {u : Value}, l[i]? = some a → j < k → (enc a).set j u = enc a' → (l.flatMap enc).set (i * k + j) u = (l.set i a').flatMap enc
 | [], i, j, a, a', u, h, _, _ => by simp at h
 | b :: l, 0, j, a, a', u, h, hj, hu => by
  simp at h; subst h
  rw [List.flatMap_cons, Nat.zero_mul, Nat.zero_add, List.set_append_left _ _ (by rw [hk]; exact hj), hu]; rfl
 | b :: l, i + 1, j, a, a', u, h, hj, hu => by
  rw [List.flatMap_cons, List.set_append_right _ _ (by rw [hk, Nat.succ_mul]; omega), hk, show (i + 1) * k + j - k = i * k + j by rw [Nat.succ_mul]; omega,
   flat_set hk (by simpa using h) hj hu]; rfl
theorem flat_take (hk : ∀ a, (enc a).length = k) : ∀ (l : List α) (n : Nat), (l.flatMap enc).take (n * k) = (l.take n).flatMap enc
 | [], n => by simp
 | b :: l, 0 => by simp
 | b :: l, n + 1 => by
  rw [List.flatMap_cons, List.take_succ_cons, List.flatMap_cons, List.take_append, hk, List.take_of_length_le (by rw [hk, Nat.succ_mul]; omega), show (n + 1) * k - k = n * k by rw [Nat.succ_mul]; omega, flat_take hk l n]
theorem flat_drop (hk : ∀ a, (enc a).length = k) : ∀ (l : List α) (n : Nat), (l.flatMap enc).drop (n * k) = (l.drop n).flatMap enc
 | [], n => by simp
 | b :: l, 0 => by simp
 | b :: l, n + 1 => by
  rw [List.flatMap_cons, List.drop_succ_cons, List.drop_append, hk, List.drop_eq_nil_of_le (by rw [hk, Nat.succ_mul]; omega), show (n + 1) * k - k = n * k by rw [Nat.succ_mul]; omega, flat_drop hk l n, List.nil_append]
theorem flat_lt (hk : ∀ a, (enc a).length = k) {l : List α} {i j : Nat} (hi : i < l.length) (hj : j < k) : i * k + j < (l.flatMap enc).length := by
 rw [flat_length hk]
 calc i * k + j < i * k + k := by omega
  _ = (i + 1) * k := by rw [Nat.succ_mul]
  _ ≤ l.length * k := Nat.mul_le_mul_right _ hi
theorem OwnRow.list {S : Nat → Prop} {w : World} {T : TypeId} {v : Value} {l : List α} (hk : ∀ a, (enc a).length = k) (h : OwnRow S w T k v l.length (l.flatMap enc)) : ListIn w k enc v l := by
 obtain ⟨A, cap, e, _, _, hc⟩ := h.slice
 refine ⟨A, cap, e, fun h0 => ?_⟩
 obtain ⟨g, e1, _, hr⟩ := hc h0
 exact ⟨g, 0, e1, hr.inside, fun i a j u h3 h4 => by rw [Nat.zero_add]; exact hr.cell (flat_get hk h3 h4)⟩
theorem flat_erase (hk : ∀ a, (enc a).length = k) (l : List α) (i : Nat) : (l.eraseIdx i).flatMap enc = (l.flatMap enc).take (i * k) ++ (l.flatMap enc).drop ((i + 1) * k) := by
 rw [List.eraseIdx_eq_take_drop_succ, List.flatMap_append, flat_take hk, flat_drop hk]
theorem get_lt {l : List α} {i : Nat} {a : α} (h : l[i]? = some a) : i < l.length := by
 rcases Nat.lt_or_ge i l.length with hl | hl
 ·exact hl
 rw [List.getElem?_eq_none hl] at h; cases h
theorem get_some (l : List α) {i : Nat} (h : i < l.length) : ∃ a, l[i]? = some a := ⟨_, List.getElem?_eq_getElem h⟩
end
structure Two (w0 w : World) (S1 S2 : Nat → Prop) : Prop where
 dis : ∀ b, S1 b → ¬ S2 b
 one : ∀ b, S1 b → w0.heap.size ≤ b ∧ b < w.heap.size
 two : ∀ b, S2 b → w0.heap.size ≤ b ∧ b < w.heap.size
 below : Below w0.heap.size w0 w
section
variable {w0 w w1 : World} {S1 S2 : Nat → Prop}
theorem Two.left (h : Two w0 w S1 S2) (hc : Chg S1 w w1) : Two w0 w1 (Plus S1 w w1) S2 :=
 ⟨fun b hb h2 => by
   rcases hb with hb | hb
   ·exact h.dis b hb h2
   have := (h.two b h2).2; omega,
  fun b hb => by
   have := hc.size; have := h.below.size
   rcases hb with hb | hb
   ·have := h.one b hb; omega
   omega,
  fun b hb => by have := h.two b hb; have := hc.size; omega,
  h.below.trans (hc.below h.below.size (fun k hk hS => by have := (h.one k hS).1; omega))⟩
theorem Two.right (h : Two w0 w S1 S2) (hc : Chg S2 w w1) : Two w0 w1 S1 (Plus S2 w w1) :=
 ⟨fun b hb h2 => by
   rcases h2 with h2 | h2
   ·exact h.dis b hb h2
   have := (h.one b hb).2; omega,
  fun b hb => by have := h.one b hb; have := hc.size; omega,
  fun b hb => by
   have := hc.size; have := h.below.size
   rcases hb with hb | hb
   ·have := h.two b hb; omega
   omega,
  h.below.trans (hc.below h.below.size (fun k hk hS => by have := (h.two k hS).1; omega))⟩
theorem Two.none (h : Two w0 w S1 S2) (hc : Chg (fun _ => False) w w1) : Two w0 w1 S1 S2 :=
 ⟨h.dis, fun b hb => by have := h.one b hb; have := hc.size; omega, fun b hb => by have := h.two b hb; have := hc.size; omega, h.below.trans (hc.below h.below.size (fun k hk h => h))⟩
end
end G
namespace G
def idxOf (o : Option Nat) : Int := match o with | none => -1 | some i => (i : Int)
section
variable {α β : Type}
def upTo (f : α → α) (l : List α) (k : Nat) : List α := (l.take k).map f ++ l.drop k
theorem upTo_zero (f : α → α) (l : List α) : upTo f l 0 = l := by simp [upTo]
theorem upTo_all (f : α → α) (l : List α) : upTo f l l.length = l.map f := by simp [upTo]
theorem upTo_length (f : α → α) (l : List α) (k : Nat) : (upTo f l k).length = l.length := by simp [upTo]; omega
theorem upTo_get (f : α → α) (l : List α) (k : Nat) : (upTo f l k)[k]? = l[k]? := by
 unfold upTo
 rcases Nat.lt_or_ge k l.length with h | h
 ·rw [List.getElem?_append_right (by simp; omega)]
  simp; rw [Nat.min_eq_left (by omega), Nat.sub_self]; simp
 rw [List.getElem?_eq_none h, List.getElem?_eq_none]; simp; omega
theorem drop_of_get {l : List α} {k : Nat} {a : α} (h : l[k]? = some a) : l.drop k = a :: l.drop (k + 1) := by
 have hl := get_lt h
 rw [List.drop_eq_getElem_cons hl]
 congr
 rw [List.getElem?_eq_getElem hl] at h; exact Option.some.inj h
theorem take_of_get {l : List α} {k : Nat} {a : α} (h : l[k]? = some a) : l.take (k + 1) = l.take k ++ [a] := by
 rw [List.take_add_one, h]; rfl
theorem upTo_succ {f : α → α} {l : List α} {k : Nat} {a : α} (h : l[k]? = some a) : (upTo f l k).set k (f a) = upTo f l (k + 1) := by
 have hl := get_lt h
 unfold upTo
 have e : k - (List.map f (List.take k l)).length = 0 := by simp; omega
 rw [drop_of_get h, take_of_get h, List.map_append, List.append_assoc, List.set_append_right _ _ (by simp; omega), e]
 simp
theorem upTo_same {f : α → α} {l : List α} {k : Nat} {a : α} (h : l[k]? = some a) (hf : f a = a) : upTo f l (k + 1) = upTo f l k := by
 unfold upTo
 rw [drop_of_get h, take_of_get h, List.map_append, List.append_assoc]
 simp [hf]
def firstAt (p : α → Bool) (l : List α) : Option Nat := l.findIdx? p
theorem firstAt_none {p : α → Bool} {l : List α} (h : ∀ (k : Nat) (a : α), l[k]? = some a → p a = false) : firstAt p l = none := by
 unfold firstAt
 rw [List.findIdx?_eq_none_iff]
 intro x hx
 obtain ⟨k, hk, e⟩ := List.mem_iff_getElem.1 hx
 exact h k x (by rw [List.getElem?_eq_getElem hk, e])
theorem firstAt_some {p : α → Bool} {l : List α} {i : Nat} {a : α} (h : ∀ (k : Nat) (b : α), k < i → l[k]? = some b → p b = false) (hi : l[i]? = some a) (ha : p a = true) : firstAt p l = some i := by
 unfold firstAt
 have hl := get_lt hi
 rw [List.findIdx?_eq_some_iff_getElem]
 rw [List.getElem?_eq_getElem hl] at hi
 refine ⟨hl, by rw [Option.some.inj hi]; exact ha, fun j hj => ?_⟩
 have := h j _ hj (List.getElem?_eq_getElem (by omega))
 simp [this]
theorem firstAt_spec {p : α → Bool} {l : List α} {i : Nat} (h : firstAt p l = some i) : ∃ a, l[i]? = some a ∧ p a = true ∧ ∀ (k : Nat) (b : α), k < i → l[k]? = some b → p b = false := by
 unfold firstAt at h
 rw [List.findIdx?_eq_some_iff_getElem] at h
 obtain ⟨hl, hp, hj⟩ := h
 refine ⟨_, List.getElem?_eq_getElem hl, hp, fun k b hk hb => ?_⟩
 have := hj k hk
 rw [List.getElem?_eq_getElem (by omega)] at hb
 rw [Option.some.inj hb] at this
 simpa using this
theorem firstAt_miss {p : α → Bool} {l : List α} (h : firstAt p l = none) : ∀ (k : Nat) (a : α), l[k]? = some a → p a = false := by
 unfold firstAt at h
 rw [List.findIdx?_eq_none_iff] at h
 exact fun k a ha => h a (List.mem_of_getElem? ha)
theorem count_snoc {p : α → Bool} {l : List α} {k : Nat} {a : α} (h : l[k]? = some a) : (l.take (k + 1)).countP p = (l.take k).countP p + if p a then 1 else 0 := by
 rw [take_of_get h, List.countP_append]
 simp [List.countP_cons, List.countP_nil]
theorem filter_snoc {p : α → Bool} {l : List α} {k : Nat} {a : α} (h : l[k]? = some a) : (l.take (k + 1)).filter p = (l.take k).filter p ++ if p a then [a] else [] := by
 rw [take_of_get h, List.filter_append]
 cases hp : p a <;> simp [hp]
end
end G
namespace G
open Go
def pieces (c : UInt8) : List UInt8 → List (List UInt8)
 | [] => [[]]
 | b :: l => if b = c then [] :: pieces c l else match pieces c l with
  | p :: ps => (b :: p) :: ps
  | [] => [[b]]
theorem pieces_pos (c : UInt8) (l : List UInt8) : 0 < (pieces c l).length := by
 cases l with
 | nil => exact Nat.one_pos
 | cons b l =>
  unfold pieces
  split
  ·simp
  split <;> simp
theorem pieces_cons (c : UInt8) (l : List UInt8) : ∃ p ps, pieces c l = p :: ps := by
 have := pieces_pos c l
 cases h : pieces c l with
 | nil => rw [h] at this; exact absurd this (by simp)
 | cons p ps => exact ⟨p, ps, rfl⟩
theorem pieces_eq (c : UInt8) (l : List UInt8) : pieces c (c :: l) = [] :: pieces c l := by
 conv => lhs; unfold pieces
 rw [if_pos rfl]
theorem pieces_ne {c b : UInt8} (h : b ≠ c) {l p : List UInt8} {ps : List (List UInt8)} (e : pieces c l = p :: ps) : pieces c (b :: l) = (b :: p) :: ps := by
 conv => lhs; unfold pieces
 rw [if_neg h, e]
def growLast (b : UInt8) : List (List UInt8) → List (List UInt8)
 | [] => [[b]]
 | [p] => [p ++ [b]]
 | p :: q :: ps => p :: growLast b (q :: ps)
theorem growLast_cons (b : UInt8) (p : List UInt8) {ps : List (List UInt8)} (h : ps ≠ []) : growLast b (p :: ps) = p :: growLast b ps := by
 cases ps with
 | nil => exact absurd rfl h
 | cons q ps => rfl
theorem pieces_snoc (c b : UInt8) : ∀ l : List UInt8, pieces c (l ++ [b]) = if b = c then pieces c l ++ [[]] else growLast b (pieces c l)
 | [] => by
  by_cases h : b = c
  ·subst h; rw [if_pos rfl]; show pieces b (b :: []) = _; rw [pieces_eq]; rfl
  rw [if_neg h]; show pieces c (b :: []) = _; rw [pieces_ne h (show pieces c [] = [] :: [] from rfl)]; rfl
 | x :: l => by
  have ih := pieces_snoc c b l
  by_cases hx : x = c
  ·subst hx
   rw [List.cons_append, pieces_eq, pieces_eq, ih]
   split
   ·rfl
   rw [growLast_cons _ _ (by have := pieces_pos x l; intro e; rw [e] at this; exact absurd this (by simp))]
  obtain ⟨p, ps, e⟩ := pieces_cons c l
  rw [List.cons_append, pieces_ne hx e]
  rw [e] at ih
  by_cases h : b = c
  ·rw [if_pos h] at ih ⊢
   rw [pieces_ne hx (show pieces c (l ++ [b]) = p :: (ps ++ [[]]) from ih)]; rfl
  rw [if_neg h] at ih ⊢
  cases ps with
  | nil => rw [pieces_ne hx (show pieces c (l ++ [b]) = (p ++ [b]) :: [] from ih)]; rfl
  | cons q ps => rw [pieces_ne hx (show pieces c (l ++ [b]) = p :: growLast b (q :: ps) from ih)]; rfl
theorem growLast_set (b : UInt8) : ∀ {l : List (List UInt8)} {p : List UInt8}, l[l.length - 1]? = some p → growLast b l = l.set (l.length - 1) (p ++ [b])
 | [], p, h => by simp at h
 | [q], p, h => by simp at h; subst h; rfl
 | x :: q :: ps, p, h => by
  have ih := growLast_set b (l := q :: ps) (p := p) (by simpa using h)
  show x :: growLast b (q :: ps) = _
  rw [ih]; rfl
theorem pieces_le (c : UInt8) : ∀ (l : List UInt8), ∀ p ∈ pieces c l, p.length ≤ l.length
 | [], p, hp => by simp [pieces] at hp; subst hp; simp
 | b :: l, p, hp => by
  have ih := pieces_le c l
  by_cases h : b = c
  ·subst h
   rw [pieces_eq] at hp
   rcases List.mem_cons.1 hp with rfl | hp
   ·simp
   have := ih p hp; simp; omega
  obtain ⟨q, ps, e⟩ := pieces_cons c l
  rw [pieces_ne h e] at hp
  rw [e] at ih
  rcases List.mem_cons.1 hp with rfl | hp
  ·have := ih q (by simp); simp; omega
  have := ih p (by simp [hp]); simp; omega
theorem pieces_many (c : UInt8) : ∀ (l : List UInt8), (pieces c l).length = l.count c + 1
 | [] => rfl
 | b :: l => by
  have ih := pieces_many c l
  by_cases h : b = c
  ·subst h; rw [pieces_eq, List.length_cons, ih, List.count_cons_self]
  obtain ⟨q, ps, e⟩ := pieces_cons c l
  rw [pieces_ne h e, List.count_cons_of_ne (by simpa using h), ← ih, e]; rfl
theorem pieces_none (c : UInt8) : ∀ (l : List UInt8), ∀ p ∈ pieces c l, c ∉ p
 | [], p, hp => by simp [pieces] at hp; subst hp; simp
 | b :: l, p, hp => by
  have ih := pieces_none c l
  by_cases h : b = c
  ·subst h
   rw [pieces_eq] at hp
   rcases List.mem_cons.1 hp with rfl | hp
   ·simp
   exact ih p hp
  obtain ⟨q, ps, e⟩ := pieces_cons c l
  rw [pieces_ne h e] at hp
  rw [e] at ih
  rcases List.mem_cons.1 hp with rfl | hp
  ·have := ih q (by simp)
   simp only [List.mem_cons, not_or]
   exact ⟨fun e => h e.symm, this⟩
  exact ih p (by simp [hp])
def cutB (c : UInt8) : List UInt8 → List UInt8 × List UInt8 × Bool
 | [] => ([], [], false)
 | b :: l => if b = c then ([], l, true) else (b :: (cutB c l).1, (cutB c l).2.1, (cutB c l).2.2)
theorem cutB_eq (c : UInt8) (l : List UInt8) : cutB c (c :: l) = ([], l, true) := by conv => lhs; unfold cutB; rw [if_pos rfl]
theorem cutB_ne {c b : UInt8} (h : b ≠ c) (l : List UInt8) : cutB c (b :: l) = (b :: (cutB c l).1, (cutB c l).2.1, (cutB c l).2.2) := by conv => lhs; unfold cutB; rw [if_neg h]
theorem index_cons_ne {c b : UInt8} (h : b ≠ c) (l : List UInt8) : Lib.index (b :: l) [c] = if Lib.index l [c] = -1 then -1 else Lib.index l [c] + 1 := by
 have hp : ([c] : List UInt8).isPrefixOf (b :: l) = false := by simp [List.isPrefixOf, Ne.symm h]
 rw [Lib.index, hp]
 by_cases e : Lib.index l [c] = -1
 ·rw [if_pos e, e]; rfl
 rw [if_neg e]; simp [e]
theorem index_cons_eq (c : UInt8) (l : List UInt8) : Lib.index (c :: l) [c] = 0 := by rw [Lib.index]; simp [List.isPrefixOf]
theorem cut_is (c : UInt8) : ∀ l : List UInt8, Lib.cut l [c] = cutB c l
 | [] => rfl
 | b :: l => by
  have ih := cut_is c l
  have hg := Lib.index_ge l [c]
  by_cases h : b = c
  ·subst h
   unfold Lib.cut
   rw [index_cons_eq, if_pos (by omega), cutB_eq]
   simp
  rw [cutB_ne h, ← ih]
  unfold Lib.cut
  rw [index_cons_ne h]
  by_cases e : Lib.index l [c] = -1
  ·rw [if_pos e, if_neg (by omega), if_neg (by omega)]
  have e2 : (Lib.index l [c] + 1).toNat = (Lib.index l [c]).toNat + 1 := by omega
  rw [if_neg e, if_pos (by omega), if_pos (by omega), e2]
  simp only [List.take_succ_cons, List.length_cons, List.length_nil]
  rfl
theorem splitK_is (c : UInt8) : ∀ l : List UInt8, Lib.splitK [c] 0 (Lib.count l [c]) l = pieces c l
 | [] => by rw [Lib.count_one]; rfl
 | b :: l => by
  have ih := splitK_is c l
  by_cases h : b = c
  ·subst h
   rw [Lib.count_cons_eq, Nat.add_comm, pieces_eq, ← ih]
   conv => lhs; unfold Lib.splitK
   rw [index_cons_eq]
   simp
  rw [Lib.count_cons_ne b c l h]
  cases hk : Lib.count l [c] with
  | zero =>
   rw [hk] at ih
   rw [pieces_ne h (show pieces c l = l :: [] from ih.symm)]; rfl
  | succ k =>
   rw [hk] at ih
   have hm : Lib.index l [c] ≠ -1 := fun e => by
    have := Lib.count_miss e; omega
   have hg := Lib.index_ge l [c]
   obtain ⟨i, hi⟩ : ∃ i : Nat, Lib.index l [c] = i := ⟨(Lib.index l [c]).toNat, by omega⟩
   have e1 : Lib.splitK [c] 0 (k + 1) l = l.take i :: Lib.splitK [c] 0 k (l.drop (i + 1)) := by
    conv => lhs; unfold Lib.splitK
    rw [hi, if_neg (by first | (simp; done) | (simp; omega))]; simp
   rw [e1] at ih
   rw [pieces_ne h ih.symm]
   conv => lhs; unfold Lib.splitK
   rw [index_cons_ne h, if_neg hm, hi, if_neg (by first | (simp; done) | (simp; omega))]
   have e2 : ((i : Int) + 1).toNat = i + 1 := by omega
   rw [e2]; simp
theorem split_is (c : UInt8) (s : ByteArray) : (Lib.splitB ⟨#[c]⟩ 0 (Lib.countB s ⟨#[c]⟩) s).map (·.data.toList) = pieces c s.data.toList := by
 rw [Lib.splitB_data]
 exact splitK_is c s.data.toList
end G
namespace G
open Go
theorem ofInt_u64 (a : Nat) (ha : a < 18446744073709551616) : (BitVec.ofInt 64 (a : Int)).toNat = a := by
 rw [BitVec.ofInt_natCast, BitVec.toNat_ofNat]; exact Nat.mod_eq_of_lt ha
theorem wrap_u64_nat (a : Nat) (ha : a < 18446744073709551616) : IntKind.u64.wrap (a : Int) = a := by
 rw [IntKind.wrap_u64]; omega
theorem and_u64 (a b : Nat) (ha : a < 18446744073709551616) (hb : b < 18446744073709551616) : bits .and .u64 (a : Int) (b : Int) = ((a &&& b : Nat) : Int) := by
 show IntKind.u64.wrap ((BitVec.ofInt 64 (a : Int) &&& BitVec.ofInt 64 (b : Int)).toNat : Int) = _
 rw [BitVec.toNat_and, ofInt_u64 a ha, ofInt_u64 b hb]
 exact wrap_u64_nat _ (Nat.lt_of_le_of_lt Nat.and_le_left ha)
def allN (lo hi : Nat) : Nat := 2 ^ (hi + 1) - 2 ^ lo
theorem allN_lt (lo hi : Nat) (h : hi ≤ 62) : allN lo hi < 9223372036854775808 := by
 have h1 : 2 ^ (hi + 1) ≤ 2 ^ 63 := Nat.pow_le_pow_right (by omega) (by omega)
 have h2 : 0 < 2 ^ lo := Nat.two_pow_pos _
 unfold allN
 have : 2 ^ 63 = 9223372036854775808 := by decide
 omega
theorem shift_bit (s : Nat) (k : Nat) (h : s < 18446744073709551616) : (bits .and .u64 ((s : Int) / 2 ^ k) 1 == 1) = s.testBit k := by
 have e : ((s : Int) / 2 ^ k) = ((s / 2 ^ k : Nat) : Int) := by simp
 rw [e, show (1 : Int) = ((1 : Nat) : Int) from rfl, and_u64 _ _ (Nat.lt_of_le_of_lt (Nat.div_le_self _ _) h) (by omega)]
 rw [Nat.testBit_eq_decide_div_mod_eq, Nat.and_one_is_mod]
 rw [Bool.eq_iff_iff]; simp; omega
def okField (s : Int) (lo hi : Nat) (any : Bool) : Bool := !(s == 0) && (bits .andNot .u64 s (allN lo hi : Nat) == 0) && (!any || s == ((allN lo hi : Nat) : Int))
end G
namespace Go.Proofs.YtoidcbpcnikejaaGreatDoor
open Go.RowKit
theorem ret_int {k : IntKind} {a b : Int} (h : a = b) : Ending.returned (.int k a) = .returned (.int k b) := by rw [h]
def hasB (s : Nat) (n : Int) : Bool := decide (0 ≤ n) && decide (n < 64) && s.testBit n.toNat
theorem cronHas (s : Nat) (n : Int) (w : World) (hs : s < 18446744073709551616) : Calls Tryz.prog 152 #[.int .u64 (s : Int), .int .i64 n] w fun e w' => e = .returned (.bool (hasB s n)) ∧ w = w' := by
 by_cases h0 : 0 ≤ n
 ·by_cases h1 : n < 64
  ·obtain ⟨k, rfl⟩ := Int.eq_ofNat_of_zero_le h0
   have hb := J (G.shift_bit s k hs)
   have k1 : Hid (hasB s (k : Int) = s.testBit k) := by show _ = _; unfold hasB; simp; omega
   have s0 : (0 : Int) ≤ (s : Int) := by omega
   have s1 := J hs
   clear hs
   go_enter Tryz.func152, Tryz.ntmps152
   go_wp2
   go_ret
   refine ⟨?_, rfl⟩
   rw [k1.u, ← hb.u]
   first | rfl | (simp; done)
  have k : hasB s n = false := by unfold hasB; simp [h1]
  rw [k]
  clear hs
  go_enter Tryz.func152, Tryz.ntmps152
  go_wp2
  go_ret
  exact ⟨rfl, rfl⟩
 have k : hasB s n = false := by unfold hasB; simp [h0]
 rw [k]
 clear hs
 go_enter Tryz.func152, Tryz.ntmps152
 go_wp2
 go_ret
 exact ⟨rfl, rfl⟩
theorem pow_u64 {k : Nat} (h : k ≤ 62) : IntKind.u64.wrap ((2 : Int) ^ k) = ((2 ^ k : Nat) : Int) := by
 have e : ((2 : Int) ^ k) = ((2 ^ k : Nat) : Int) := by simp
 rw [e]
 exact G.wrap_u64_nat _ (Nat.lt_of_le_of_lt (Nat.pow_le_pow_right (by omega) h) (by decide))
theorem all_eq {lo hi : Nat} (h1 : lo ≤ hi) (h2 : hi ≤ 60) : IntKind.u64.wrap (IntKind.u64.wrap ((2 : Int) ^ ((hi : Int) + 1).toNat) - IntKind.u64.wrap ((2 : Int) ^ ((lo : Int)).toNat)) = ((G.allN lo hi : Nat) : Int) := by
 rw [show ((hi : Int) + 1).toNat = hi + 1 by omega, show ((lo : Int)).toNat = lo by omega, pow_u64 (by omega), pow_u64 (by omega)]
 have h3 : 2 ^ lo ≤ 2 ^ (hi + 1) := Nat.pow_le_pow_right (by omega) (by omega)
 have := G.allN_lt lo hi (by omega)
 have e : (((2 ^ (hi + 1) : Nat) : Int) - ((2 ^ lo : Nat) : Int)) = ((G.allN lo hi : Nat) : Int) := by unfold G.allN; omega
 rw [e]
 exact G.wrap_u64_nat _ (by omega)
theorem cronAll (lo hi : Nat) (a b : Value) (w : World) (h1 : lo ≤ hi) (h2 : hi ≤ 60) : Calls Tryz.prog 109 #[.agg #[a, .int .i64 lo, .int .i64 hi, b]] w fun e w' => e = .returned (.int .u64 (G.allN lo hi : Nat)) ∧ Below w.heap.size w w' := by
 have he := J (all_eq h1 h2)
 have l0 : (0 : Int) ≤ (lo : Int) := by omega
 have l1 : (lo : Int) ≤ 60 := by omega
 have l2 : (hi : Int) ≤ 60 := by omega
 go_enter Tryz.func109, Tryz.ntmps109
 go_wp2
 go_quiet (fail)
 go_wp2
 go_ret
 refine ⟨?_, by exact ⟨rfl, rfl, rfl, by simp, fun k hk => Below.heap_alloc w _ k hk⟩⟩
 rw [← he.u]
 first | rfl | (simp; done)
def fieldCells (g : Nat) : Array Value := #[.pointer (some ⟨g, 0, none⟩), .int .i64 0, .int .i64 59, .pointer none,
 .pointer (some ⟨g, 1, none⟩), .int .i64 0, .int .i64 23, .pointer none,
 .pointer (some ⟨g, 2, none⟩), .int .i64 1, .int .i64 31, .pointer (some ⟨g, 5, none⟩),
 .pointer (some ⟨g, 3, none⟩), .int .i64 1, .int .i64 12, .pointer none,
 .pointer (some ⟨g, 4, none⟩), .int .i64 0, .int .i64 6, .pointer (some ⟨g, 6, none⟩)]
def FieldsPost (w0 : World) (g : Nat) (e : Ending) (w' : World) : Prop := ∃ h, e = .returned (.slice (some ⟨h, 0, none⟩) 5 5) ∧ w0.heap.size ≤ h ∧ G.At w' h 142 (fieldCells g) ∧ Below w0.heap.size w0 w'
theorem cronFields (g : Nat) (w : World) (c : Array Value) (hc : G.At w g 92 c) (hsz : c.size = 7) : Calls Tryz.prog 72 #[.pointer (some ⟨g, 0, none⟩)] w (FieldsPost w g) := by
 go_enter Tryz.func72, Tryz.ntmps72
 go_wp2_with fail
 go_region
 all_goals
  go_wp2_with fail
  go_ret
  exact ⟨_, rfl, Nat.le_refl _, (G.At.made w _ _).drew, ((Below.refl _ _).alloc (Nat.le_refl _) _).drew⟩
end Go.Proofs.YtoidcbpcnikejaaGreatDoor
namespace G
def clip (n : Int) : Int := if 1000000000000000 < n then 1000000000000000 else if n < -1000000000000000 then -1000000000000000 else n
theorem clip_lo (n : Int) : -1000000000000000 ≤ clip n := by unfold clip; split <;> (try split) <;> omega
theorem clip_hi (n : Int) : clip n ≤ 1000000000000000 := by unfold clip; split <;> (try split) <;> omega
theorem clip_id {n : Int} (h0 : -1000000000000000 ≤ n) (h1 : n ≤ 1000000000000000) : clip n = n := by unfold clip; split <;> (try split) <;> omega
theorem clip_clip (n : Int) : clip (clip n) = clip n := clip_id (clip_lo n) (clip_hi n)
theorem clip_top {n : Int} (h : 1000000000000000 ≤ n) : clip n = 1000000000000000 := by unfold clip; split <;> (try split) <;> omega
theorem clip_bot {n : Int} (h : n ≤ -1000000000000000) : clip n = -1000000000000000 := by unfold clip; split <;> (try split) <;> omega
theorem clip_spec (n : Int) : (n ≤ -1000000000000000 ∧ clip n = -1000000000000000) ∨ (1000000000000000 ≤ n ∧ clip n = 1000000000000000) ∨ (-1000000000000000 ≤ n ∧ n ≤ 1000000000000000 ∧ clip n = n) := by
 unfold clip; split <;> (try split) <;> omega
theorem clip_nonneg {n : Int} (h : 0 ≤ n) : 0 ≤ clip n := by unfold clip; split <;> (try split) <;> omega
def addc (a b : Int) : Int := clip (clip a + clip b)
def subc (a b : Int) : Int := clip (clip a - clip b)
def mulc (a b : Int) : Int := clip (clip a * clip b)
def ceilc (a b : Int) : Int := -((-clip a) / clip b)
def pos (n : Int) : Int := clip (max n 0)
def sharec (a m : Int) : Int := clip (pos a * pos m / 1000)
/-! products -/
theorem le_div {x y : Int} (hy : 0 < y) : x ≤ 1000000000000000 / y ↔ x * y ≤ 1000000000000000 := Int.le_ediv_iff_mul_le hy
theorem mul_in {a b x y : Int} (hx : x = max a (-a)) (hy : y = max b (-b)) (hb : b ≠ 0) (h : x ≤ 1000000000000000 / y) : clip (a * b) = a * b := by
 have hy0 : 0 < y := by omega
 rw [le_div hy0] at h
 have e : (a * b).natAbs = (x * y).natAbs := by
  rw [Int.natAbs_mul, Int.natAbs_mul]
  have h1 : a.natAbs = x.natAbs := by omega
  have h2 : b.natAbs = y.natAbs := by omega
  rw [h1, h2]
 have h0 : 0 ≤ x * y := Int.mul_nonneg (by omega) (by omega)
 apply clip_id <;> omega
theorem mul_out {a b x y : Int} (hx : x = max a (-a)) (hy : y = max b (-b)) (hb : b ≠ 0) (h : ¬ x ≤ 1000000000000000 / y) :
  clip (a * b) = if decide (a < 0) = decide (b < 0) then 1000000000000000 else -1000000000000000 := by
 have hy0 : 0 < y := by omega
 rw [le_div hy0] at h
 by_cases ha : a < 0 <;> by_cases hb' : b < 0 <;> simp only [ha, hb', decide_true, decide_false, if_true, Bool.true_eq_false, Bool.false_eq_true, if_false]
 ·have e : x * y = a * b := by rw [show x = -a by omega, show y = -b by omega]; exact Int.neg_mul_neg a b
  exact clip_top (by omega)
 ·have e : x * y = -(a * b) := by rw [show x = -a by omega, show y = b by omega]; exact Int.neg_mul a b
  exact clip_bot (by omega)
 ·have e : x * y = -(a * b) := by rw [show x = a by omega, show y = -b by omega]; exact Int.mul_neg a b
  exact clip_bot (by omega)
 have e : x * y = a * b := by rw [show x = a by omega, show y = b by omega]
 exact clip_top (by omega)
theorem mulc_zero_left {a b : Int} (h : clip a = 0) : mulc a b = 0 := by unfold mulc; rw [h, Int.zero_mul]; rfl
theorem mulc_zero_right {a b : Int} (h : clip b = 0) : mulc a b = 0 := by unfold mulc; rw [h, Int.mul_zero]; rfl
/-! ceil -/
theorem clip_one {b : Int} (h : 1 ≤ b) : 1 ≤ clip b := by unfold clip; split <;> (try split) <;> omega
theorem ceil_euclid (a : Int) {b : Int} (h : 1 ≤ b) : clip a ≤ ceilc a b * clip b ∧ (ceilc a b - 1) * clip b < clip a := by
 have hb := clip_one h
 unfold ceilc
 generalize clip a = x
 generalize clip b = y at hb
 have h1 := Int.emod_nonneg (-x) (show y ≠ 0 by omega)
 have h2 := Int.emod_lt_of_pos (-x) (show 0 < y by omega)
 have h3 := Int.mul_ediv_add_emod (-x) y
 generalize -x / y = q at *
 have e1 : -q * y = -(y * q) := by rw [Int.neg_mul, Int.mul_comm]
 have e2 : (-q - 1) * y = -(y * q) - y := by rw [Int.sub_mul, e1]; omega
 rw [e1, e2]; omega
theorem ceil_lo (a : Int) {b : Int} (h : 1 ≤ b) : -1000000000000000 ≤ ceilc a b := by
 have h1 := ceil_euclid a h; have hb := clip_one h; have := clip_lo a
 rcases Int.lt_or_le (ceilc a b) (-1000000000000000) with hc | hc
 ·have : ceilc a b * clip b ≤ ceilc a b * 1 := Int.mul_le_mul_of_nonpos_left (by omega) hb
  omega
 exact hc
theorem ceil_hi (a : Int) {b : Int} (h : 1 ≤ b) : ceilc a b ≤ 1000000000000000 := by
 have h1 := ceil_euclid a h; have hb := clip_one h; have := clip_hi a
 rcases Int.lt_or_le 1000000000000000 (ceilc a b) with hc | hc
 ·have : (ceilc a b - 1) * 1 ≤ (ceilc a b - 1) * clip b := Int.mul_le_mul_of_nonneg_left hb (by omega)
  omega
 exact hc
/-! share -/
theorem share_split (a m : Int) :
  a * m / 1000 = a / 1000 * m + a % 1000 * (m / 1000) + a % 1000 * (m % 1000) / 1000 := by
 have e1 := Int.mul_ediv_add_emod a 1000
 have e2 := Int.mul_ediv_add_emod m 1000
 generalize a / 1000 = n at *
 generalize a % 1000 = r at *
 generalize hk : m / 1000 = k at *
 generalize hl : m % 1000 = l at *
 have : a * m = r * l + (n * m + r * k) * 1000 := by
  rw [← e1, Int.add_mul]
  have : r * m = r * l + r * k * 1000 := by rw [← e2, Int.mul_add, Int.mul_left_comm, Int.mul_comm 1000]; omega
  rw [this, Int.mul_assoc, Int.mul_comm 1000, Int.add_mul]; omega
 rw [this, Int.add_mul_ediv_right _ _ (by omega)]
 omega
theorem clip_add {x y : Int} (hx : 0 ≤ x) (hy : 0 ≤ y) : clip (clip x + y) = clip (x + y) := by
 have := clip_spec x; have := clip_spec (clip x + y); have := clip_spec (x + y); omega
theorem share_eq (a m : Int) (ha : 0 ≤ a) (hm : 0 ≤ m) (ha' : a ≤ 1000000000000000) (hm' : m ≤ 1000000000000000) :
  clip (clip (mulc (a / 1000) m + mulc (a % 1000) (m / 1000)) + a % 1000 * (m % 1000) / 1000) = clip (a * m / 1000) := by
 rw [share_split a m]
 have h1 : 0 ≤ a / 1000 * m := Int.mul_nonneg (by omega) hm
 have h2 : 0 ≤ a % 1000 * (m / 1000) := Int.mul_nonneg (by omega) (by omega)
 have h3 : 0 ≤ a % 1000 * (m % 1000) := Int.mul_nonneg (by omega) (by omega)
 unfold mulc
 rw [clip_id (n := a / 1000) (by omega) (by omega), clip_id (n := m) (by omega) (by omega), clip_id (n := a % 1000) (by omega) (by omega), clip_id (n := m / 1000) (by omega) (by omega)]
 have e : clip (clip (a / 1000 * m) + clip (a % 1000 * (m / 1000))) = clip (a / 1000 * m + a % 1000 * (m / 1000)) := by
  rw [clip_add h1 (clip_nonneg h2), Int.add_comm, clip_add h2 h1, Int.add_comm]
 rw [e, clip_add (by omega) (by omega)]
/-! the reference's product, digit by digit: behind the digits that p leaves -/
end G
