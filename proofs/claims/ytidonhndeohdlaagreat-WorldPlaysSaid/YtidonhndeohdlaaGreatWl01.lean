/- Parts of this claim: Row, Lst, StbM, NeedM, TopC, TopD, TopN. -/
import Derived.Deep.AppendLies
import Derived.StillTailTactics
import Derived.Deep.RegionHeld3
import Derived.Laws.MakeOwn
import Derived.Test.YtidonhndeohdlaaGreatWl00
set_option linter.unusedVariables false
set_option linter.unusedSimpArgs false
set_option maxRecDepth 100000
set_option maxHeartbeats 12800000
namespace G
open Go Go.RowKit
def RowIn (w : World) (g : Nat) (T : TypeId) (size : Nat) (xs : List Value) : Prop := ∃ cur, At w g T cur ∧ cur.size = size ∧ xs.length ≤ size ∧ cur.toList.take xs.length = xs
section
variable {w w' : World} {g : Nat} {T : TypeId} {size : Nat} {xs : List Value}
theorem RowIn.inside (h : RowIn w g T size xs) : g < w.heap.size := by obtain ⟨cur, h1, _⟩ := h; exact h1.inside
theorem RowIn.cell {i : Nat} {v : Value} (h : RowIn w g T size xs) (hv : xs[i]? = some v) : w.cell? ⟨g, i, none⟩ = some v := by
 obtain ⟨cur, h1, h2, h3, h4⟩ := h
 have hlt : i < xs.length := by
  rcases Nat.lt_or_ge i xs.length with hl | hl
  ·exact hl
  rw [List.getElem?_eq_none hl] at hv; cases hv
 refine h1.here ?_
 rw [← Array.getElem?_toList, ← hv]
 conv => rhs; rw [← h4]
 rw [List.getElem?_take, if_pos hlt]
theorem RowIn.soft (h : RowIn w g T size xs) (i : Nat) : w.frozen? ⟨g, i, none⟩ = false := by obtain ⟨cur, h1, _⟩ := h; exact h1.soft i
theorem RowIn.alloc (h : RowIn w g T size xs) (o : Obj) : RowIn (w.alloc o) g T size xs := by obtain ⟨cur, h1, h2⟩ := h; exact ⟨cur, h1.alloc o, h2⟩
theorem RowIn.drew (h : RowIn w g T size xs) : RowIn w.drew g T size xs := h
theorem RowIn.other (h : RowIn w g T size xs) {p : Addr} (hp : g ≠ p.block) (u : Value) : RowIn (w.setCell p u) g T size xs := by obtain ⟨cur, h1, h2⟩ := h; exact ⟨cur, h1.other hp u, h2⟩
theorem RowIn.put (h : RowIn w g T size xs) {i : Nat} (hi : i < xs.length) (u : Value) : RowIn (w.setCell ⟨g, i, none⟩ u) g T size (xs.set i u) := by
 obtain ⟨cur, h1, h2, h3, h4⟩ := h
 refine ⟨_, h1.put i u, by simpa using h2, by simpa using h3, ?_⟩
 rw [List.length_set]
 show (cur.setIfInBounds i u).toList.take xs.length = xs.set i u
 rw [Array.toList_setIfInBounds, List.take_set, h4]
theorem RowIn.chg {S : Nat → Prop} (h : RowIn w g T size xs) (hc : Chg S w w') (hs : ¬ S g) : RowIn w' g T size xs := by obtain ⟨cur, h1, h2⟩ := h; exact ⟨cur, h1.chg hc hs, h2⟩
theorem RowIn.fewer (h : RowIn w g T size xs) (n : Nat) : RowIn w g T size (xs.take n) := by
 obtain ⟨cur, h1, h2, h3, h4⟩ := h
 refine ⟨cur, h1, h2, by simp; omega, ?_⟩
 conv => rhs; rw [← h4]
 rw [List.take_take, List.length_take]
theorem RowIn.apart {g' : Nat} {T' : TypeId} {size' : Nat} {xs' : List Value} (h : RowIn w g T size xs) (h' : RowIn w g' T' size' xs') (hne : T ≠ T') : g ≠ g' := by
 obtain ⟨cur, h1, _⟩ := h; obtain ⟨cur', h1', _⟩ := h'; exact h1.apart h1' hne
theorem RowIn.apartAt {g' : Nat} {T' : TypeId} {cs : Array Value} (h : RowIn w g T size xs) (h' : At w g' T' cs) (hne : T ≠ T') : g ≠ g' := by
 obtain ⟨cur, h1, _⟩ := h; exact h1.apart h' hne
theorem At.row {cs : Array Value} (h : At w g T cs) : RowIn w g T cs.size cs.toList := ⟨cs, h, rfl, by simp, List.take_of_length_le (Nat.le_refl _)⟩
end
def OwnRow (S : Nat → Prop) (w : World) (T : TypeId) (k : Nat) (v : Value) (n : Nat) (xs : List Value) : Prop :=
 xs.length = n * k ∧ ((v = .slice none 0 0 ∧ n = 0) ∨ ∃ g cap, v = .slice (some ⟨g, 0, none⟩) n cap ∧ S g ∧ n ≤ cap ∧ cap ≤ maxLen ∧ RowIn w g T (cap * k) xs)
section
variable {S S' : Nat → Prop} {w w' : World} {T : TypeId} {k : Nat} {v : Value} {n : Nat} {xs : List Value}
theorem OwnRow.nil (S : Nat → Prop) (w : World) (T : TypeId) (k : Nat) : OwnRow S w T k (.slice none 0 0) 0 [] := ⟨by simp, .inl ⟨rfl, rfl⟩⟩
theorem OwnRow.mono (h : OwnRow S w T k v n xs) (hs : ∀ g, g < w.heap.size → S g → S' g) : OwnRow S' w T k v n xs := by
 refine ⟨h.1, ?_⟩
 rcases h.2 with hn | ⟨g, cap, e, hS, h3, h4, h5⟩
 ·exact .inl hn
 exact .inr ⟨g, cap, e, hs g h5.inside hS, h3, h4, h5⟩
theorem OwnRow.form (h : OwnRow S w T k v n xs) (hn : 0 < n) : ∃ g cap, v = .slice (some ⟨g, 0, none⟩) n cap ∧ S g ∧ n ≤ cap ∧ cap ≤ maxLen ∧ RowIn w g T (cap * k) xs := by
 rcases h.2 with ⟨_, h0⟩ | h1
 ·omega
 exact h1
theorem OwnRow.slice (h : OwnRow S w T k v n xs) : ∃ A cap, v = .slice A n cap ∧ n ≤ cap ∧ cap ≤ maxLen ∧ (0 < n → ∃ g, A = some ⟨g, 0, none⟩ ∧ S g ∧ RowIn w g T (cap * k) xs) := by
 rcases h.2 with ⟨rfl, rfl⟩ | ⟨g, cap, e, hS, h3, h4, h5⟩
 ·exact ⟨none, 0, rfl, Nat.le_refl 0, Nat.zero_le _, fun h => by omega⟩
 exact ⟨_, cap, e, h3, h4, fun _ => ⟨g, rfl, hS, h5⟩⟩
theorem OwnRow.alloc (h : OwnRow S w T k v n xs) (o : Obj) : OwnRow S (w.alloc o) T k v n xs := by
 refine ⟨h.1, ?_⟩
 rcases h.2 with hn | ⟨g, cap, e, hS, h3, h4, h5⟩
 ·exact .inl hn
 exact .inr ⟨g, cap, e, hS, h3, h4, h5.alloc o⟩
theorem OwnRow.drew (h : OwnRow S w T k v n xs) : OwnRow S w.drew T k v n xs := h
theorem OwnRow.chg {C : Nat → Prop} (h : OwnRow S w T k v n xs) (hc : Chg C w w') (hs : ∀ g, S g → ¬ C g) : OwnRow S w' T k v n xs := by
 refine ⟨h.1, ?_⟩
 rcases h.2 with hn | ⟨g, cap, e, hS, h3, h4, h5⟩
 ·exact .inl hn
 exact .inr ⟨g, cap, e, hS, h3, h4, h5.chg hc (hs g hS)⟩
theorem OwnRow.below {B : Nat} (h : OwnRow S w T k v n xs) (hb : Below B w w') (hB : w.heap.size ≤ B) : OwnRow S w' T k v n xs :=
 h.chg (C := fun _ => False) (Chg.of_below hb hB) (fun _ _ h => h)
theorem OwnRow.other (h : OwnRow S w T k v n xs) {p : Addr} (hp : ¬ S p.block) (u : Value) : OwnRow S (w.setCell p u) T k v n xs :=
 h.chg ((Chg.refl (· = p.block) w).put (.inl rfl) u) (fun g hg e => hp (e ▸ hg))
theorem OwnRow.owns (h : OwnRow S w T k v n xs) : w.ownsRow 0 T k v n xs := by
 refine ⟨h.1, ?_⟩
 rcases h.2 with hn | ⟨g, cap, e, hS, h3, h4, cur, h5, h6, h7, h8⟩
 ·exact .inl hn
 exact .inr ⟨g, cap, cur, e, Nat.zero_le _, h5, h3, h4, h6, by rw [← h.1]; exact h8⟩
theorem OwnRow.block (h : OwnRow S w T k v n xs) : ∀ g, v.ownBlock = some g → S g ∧ g < w.heap.size := by
 intro g hg
 rcases h.2 with ⟨rfl, _⟩ | ⟨g', cap, rfl, hS, _, _, h5⟩
 ·simp [Value.ownBlock] at hg
 simp [Value.ownBlock] at hg; subst hg; exact ⟨hS, h5.inside⟩
theorem OwnRow.of_owns {B : Nat} (h : w.ownsRow B T k v n xs) (hs : ∀ g, v.ownBlock = some g → S g) : OwnRow S w T k v n xs := by
 refine ⟨h.1, ?_⟩
 rcases h.2 with hn | ⟨g, cap, cur, rfl, hb, h5, h3, h4, h6, h8⟩
 ·exact .inl hn
 refine .inr ⟨g, cap, rfl, hs g rfl, h3, h4, cur, h5, h6, ?_, ?_⟩
 ·rw [h.1]; exact Nat.mul_le_mul_right _ h3
 rw [h.1]; exact h8
theorem OwnRow.put {g cap : Nat} (h : OwnRow S w T k (.slice (some ⟨g, 0, none⟩) n cap) n xs) {i : Nat} (hi : i < xs.length) (u : Value) : OwnRow S (w.setCell ⟨g, i, none⟩ u) T k (.slice (some ⟨g, 0, none⟩) n cap) n (xs.set i u) := by
 refine ⟨by rw [List.length_set]; exact h.1, ?_⟩
 rcases h.2 with ⟨hn, _⟩ | ⟨g', cap', e, hS, h3, h4, h5⟩
 ·cases hn
 cases e; exact .inr ⟨_, _, rfl, hS, h3, h4, h5.put hi u⟩
theorem OwnRow.grown {v' : Value} {m : Nat} {ys : List Value} (h : OwnRow S w T k v n xs) (hg : w.grownBy w' v.ownBlock) (h' : w'.ownsRow 0 T k v' m ys) (hl : v'.ownBlock = v.ownBlock ∨ v'.ownBlock = some w.heap.size) (hlt : ∀ g, v'.ownBlock = some g → g < w'.heap.size) :
  OwnRow (fun b => S b ∨ (w.heap.size ≤ b ∧ b < w'.heap.size)) w' T k v' m ys ∧ Chg S w w' := by
 refine ⟨OwnRow.of_owns h' (fun g hgb => ?_), (Chg.refl S w).grown hg (fun g hgb => .inl (h.block g hgb).1)⟩
 have hlt' := hlt g hgb
 rcases hl with e | e
 ·rw [e] at hgb; exact .inl (h.block g hgb).1
 rw [e] at hgb; cases hgb; exact .inr ⟨Nat.le_refl _, hlt'⟩
end
def Plus (S : Nat → Prop) (w w' : World) : Nat → Prop := fun b => S b ∨ (w.heap.size ≤ b ∧ b < w'.heap.size)
theorem Plus.up {S : Nat → Prop} {w w1 w2 : World} {b : Nat} (h : Plus S w w1 b) (hl : w1.heap.size ≤ w2.heap.size) : Plus S w w2 b := by
 rcases h with h | h
 ·exact .inl h
 exact .inr ⟨h.1, by omega⟩
theorem Plus.lim {S : Nat → Prop} {w w' : World} (h : ∀ b, S b → b < w.heap.size) (hl : w.heap.size ≤ w'.heap.size) : ∀ b, Plus S w w' b → b < w'.heap.size := fun b hb => by
 rcases hb with hb | hb
 ·exact Nat.lt_of_lt_of_le (h b hb) hl
 exact hb.2
theorem Plus.trans {S : Nat → Prop} {w w1 w2 : World} {b : Nat} (h : Plus (Plus S w w1) w1 w2 b) (h1 : w.heap.size ≤ w1.heap.size) (h2 : w1.heap.size ≤ w2.heap.size) : Plus S w w2 b := by
 rcases h with h | h
 ·exact h.up h2
 exact .inr ⟨by omega, h.2⟩
theorem Chg.plus {S : Nat → Prop} {w w1 w2 : World} (h : Chg S w w1) (k : Chg (Plus S w w1) w1 w2) : Chg S w w2 := h.step k fun g hg => by
 rcases hg with hg | hg
 ·exact .inl hg
 exact .inr hg.1
theorem OwnRow.app {S : Nat → Prop} {w w' : World} {T : TypeId} {k : Nat} {v : Value} {n : Nat} {xs : List Value} {g cap m : Nat} {ys : List Value} (h : OwnRow S w T k v n xs)
  (h1 : w'.ownsRow 0 T k (.slice (some ⟨g, 0, none⟩) (n + m) cap) (n + m) (xs ++ ys)) (hg : w.grownBy w' v.ownBlock) (ho : v.ownBlock = some g ∨ g = w.heap.size) (hlt : g < w'.heap.size) :
  OwnRow (Plus S w w') w' T k (.slice (some ⟨g, 0, none⟩) (n + m) cap) (n + m) (xs ++ ys) ∧ Chg S w w' := by
 refine h.grown hg h1 ?_ (fun b hb => by simp [Value.ownBlock] at hb; omega)
 rcases ho with e | e
 ·left; rw [e]; rfl
 right; rw [e]; rfl
theorem OwnRow.aside {S : Nat → Prop} {w : World} {T : TypeId} {k : Nat} {v : Value} {n : Nat} {xs : List Value} (h : OwnRow S w T k v n xs) {p : Addr} (hp : ∀ b, v.ownBlock = some b → b ≠ p.block) (u : Value) : OwnRow S (w.setCell p u) T k v n xs := by
 refine ⟨h.1, ?_⟩
 rcases h.2 with hn | ⟨g, cap, e, hS, h3, h4, h5⟩
 ·exact .inl hn
 exact .inr ⟨g, cap, e, hS, h3, h4, h5.other (hp g (by rw [e]; rfl)) u⟩
theorem OwnRow.apartAt {S : Nat → Prop} {w : World} {T : TypeId} {k : Nat} {v : Value} {n : Nat} {xs : List Value} (h : OwnRow S w T k v n xs) {g : Nat} {T' : TypeId} {cs : Array Value} (h' : At w g T' cs) (hne : T ≠ T') : ∀ b, v.ownBlock = some b → b ≠ g := by
 intro b hb
 rcases h.2 with ⟨rfl, _⟩ | ⟨g', cap, rfl, _, _, _, h5⟩
 ·simp [Value.ownBlock] at hb
 simp [Value.ownBlock] at hb; subst hb; exact h5.apartAt h' hne
theorem new_cells (w : World) (cs : Array Value) (T : TypeId) : ∀ (j : Nat) (u : Value), cs.toList[j]? = some u → (w.alloc (.cells cs T)).cell? ((⟨w.heap.size, 0, none⟩ : Addr).add j) = some u :=
 World.news_of_block (heap_alloc_new w _)
theorem new_cells_at {w : World} {cs : Array Value} {T : TypeId} {H : Nat} (hH : w.heap.size = H) : ∀ (j : Nat) (u : Value), cs.toList[j]? = some u → (w.alloc (.cells cs T)).drew.cell? ((⟨H, 0, none⟩ : Addr).add j) = some u := by
 subst hH; exact new_cells w cs T
theorem size_put (w : World) (p : Addr) (u : Value) : (w.setCell p u).heap.size = w.heap.size := by simp [World.setCell]
theorem RowIn.puts {g : Nat} {T : TypeId} {size : Nat} : ∀ (vs : List Value) (o : Nat) {w : World} {xs : List Value}, RowIn w g T size xs → o + vs.length ≤ xs.length → RowIn (w.setCells g o vs) g T size (xs.take o ++ vs ++ xs.drop (o + vs.length))
 | [], o, w, xs, h, _ => by simpa [World.setCells] using h
 | v :: vs, o, w, xs, h, hl => by
  have h1 : o < xs.length := by simp at hl; omega
  have h2 := RowIn.puts vs (o + 1) (h.put h1 v) (by rw [List.length_set]; simp at hl; omega)
  have e : (xs.set o v).take (o + 1) ++ vs ++ (xs.set o v).drop (o + 1 + vs.length) = xs.take o ++ v :: vs ++ xs.drop (o + (v :: vs).length) := by
   rw [List.drop_set_of_lt (by omega), show (v :: vs).length = vs.length + 1 by simp, show o + 1 + vs.length = o + (vs.length + 1) by omega]
   have : (xs.set o v).take (o + 1) = xs.take o ++ [v] := by
    rw [List.take_add_one, List.take_set_of_le (Nat.le_refl o)]
    simp [h1]
   rw [this]; simp
  rw [e] at h2
  exact h2
theorem Chg.puts {S : Nat → Prop} {a : World} {g : Nat} (hg : S g ∨ a.heap.size ≤ g) : ∀ (vs : List Value) (o : Nat) {w : World}, Chg S a w → Chg S a (w.setCells g o vs)
 | [], _, _, h => h
 | v :: vs, o, w, h => Chg.puts hg vs (o + 1) (h.put (p := ⟨g, o, none⟩) hg v)
section
variable {α : Type} {enc : α → List Value} {k : Nat}
def ListIn (w : World) (k : Nat) (enc : α → List Value) (v : Value) (l : List α) : Prop :=
 ∃ A cap, v = .slice A l.length cap ∧ (0 < l.length → ∃ b off, A = some ⟨b, off, none⟩ ∧ b < w.heap.size ∧ ∀ (i : Nat) (a : α) (j : Nat) (u : Value), l[i]? = some a → (enc a)[j]? = some u → w.cell? ⟨b, off + i * k + j, none⟩ = some u)
theorem ListIn.below {w w' : World} {B : Nat} {v : Value} {l : List α} (h : ListIn w k enc v l) (hb : Below B w w') (hB : w.heap.size ≤ B) : ListIn w' k enc v l := by
 obtain ⟨A, cap, e, hc⟩ := h
 refine ⟨A, cap, e, fun h0 => ?_⟩
 obtain ⟨b, off, e1, hlt, h2⟩ := hc h0
 exact ⟨b, off, e1, Nat.lt_of_lt_of_le hlt hb.size, fun i a j u h3 h4 => (hb.cell (p := ⟨b, off + i * k + j, none⟩) (by show b < B; omega)).trans (h2 i a j u h3 h4)⟩
theorem flat_length (hk : ∀ a, (enc a).length = k) (l : List α) : (l.flatMap enc).length = l.length * k := by
 induction l with
 | nil => simp
 | cons a l ih => rw [List.flatMap_cons, List.length_append, hk, ih, List.length_cons, Nat.succ_mul]; omega
theorem flat_get (hk : ∀ a, (enc a).length = k) : ∀ {l : List α} {i j : Nat} {a : α} {u : Value}, l[i]? = some a → (enc a)[j]? = some u → (l.flatMap enc)[i * k + j]? = some u
 | [], i, j, a, u, h, _ => by simp at h
 | b :: l, 0, j, a, u, h, hu => by
  simp at h; subst h
  have hj : j < (enc b).length := by
   rcases Nat.lt_or_ge j (enc b).length with hl | hl
   ·exact hl
   rw [List.getElem?_eq_none hl] at hu; cases hu
  rw [List.flatMap_cons, Nat.zero_mul, Nat.zero_add, List.getElem?_append_left hj]; exact hu
 | b :: l, i + 1, j, a, u, h, hu => by
  rw [List.flatMap_cons, List.getElem?_append_right (by rw [hk, Nat.succ_mul]; omega), hk, show (i + 1) * k + j - k = i * k + j by rw [Nat.succ_mul]; omega]
  exact flat_get hk (by simpa using h) hu
theorem flat_set (hk : ∀ a, (enc a).length = k) : ∀ {l : List α} {i j : Nat} {a a' : α} {u : Value}, l[i]? = some a → j < k → (enc a).set j u = enc a' → (l.flatMap enc).set (i * k + j) u = (l.set i a').flatMap enc
 | [], i, j, a, a', u, h, _, _ => by simp at h
 | b :: l, 0, j, a, a', u, h, hj, hu => by
  simp at h; subst h
  rw [List.flatMap_cons, Nat.zero_mul, Nat.zero_add, List.set_append_left _ _ (by rw [hk]; exact hj), hu]; rfl
 | b :: l, i + 1, j, a, a', u, h, hj, hu => by
  rw [List.flatMap_cons, List.set_append_right _ _ (by rw [hk, Nat.succ_mul]; omega), hk, show (i + 1) * k + j - k = i * k + j by rw [Nat.succ_mul]; omega,
   flat_set hk (by simpa using h) hj hu]; rfl
theorem flat_take (hk : ∀ a, (enc a).length = k) : ∀ (l : List α) (n : Nat), (l.flatMap enc).take (n * k) = (l.take n).flatMap enc
 | [], n => by simp
 | b :: l, 0 => by simp
 | b :: l, n + 1 => by
  rw [List.flatMap_cons, List.take_succ_cons, List.flatMap_cons, List.take_append, hk, List.take_of_length_le (by rw [hk, Nat.succ_mul]; omega), show (n + 1) * k - k = n * k by rw [Nat.succ_mul]; omega, flat_take hk l n]
theorem flat_drop (hk : ∀ a, (enc a).length = k) : ∀ (l : List α) (n : Nat), (l.flatMap enc).drop (n * k) = (l.drop n).flatMap enc
 | [], n => by simp
 | b :: l, 0 => by simp
 | b :: l, n + 1 => by
  rw [List.flatMap_cons, List.drop_succ_cons, List.drop_append, hk, List.drop_eq_nil_of_le (by rw [hk, Nat.succ_mul]; omega), show (n + 1) * k - k = n * k by rw [Nat.succ_mul]; omega, flat_drop hk l n, List.nil_append]
theorem flat_lt (hk : ∀ a, (enc a).length = k) {l : List α} {i j : Nat} (hi : i < l.length) (hj : j < k) : i * k + j < (l.flatMap enc).length := by
 rw [flat_length hk]
 calc i * k + j < i * k + k := by omega
  _ = (i + 1) * k := by rw [Nat.succ_mul]
  _ ≤ l.length * k := Nat.mul_le_mul_right _ hi
theorem OwnRow.list {S : Nat → Prop} {w : World} {T : TypeId} {v : Value} {l : List α} (hk : ∀ a, (enc a).length = k) (h : OwnRow S w T k v l.length (l.flatMap enc)) : ListIn w k enc v l := by
 obtain ⟨A, cap, e, _, _, hc⟩ := h.slice
 refine ⟨A, cap, e, fun h0 => ?_⟩
 obtain ⟨g, e1, _, hr⟩ := hc h0
 exact ⟨g, 0, e1, hr.inside, fun i a j u h3 h4 => by rw [Nat.zero_add]; exact hr.cell (flat_get hk h3 h4)⟩
theorem flat_erase (hk : ∀ a, (enc a).length = k) (l : List α) (i : Nat) : (l.eraseIdx i).flatMap enc = (l.flatMap enc).take (i * k) ++ (l.flatMap enc).drop ((i + 1) * k) := by
 rw [List.eraseIdx_eq_take_drop_succ, List.flatMap_append, flat_take hk, flat_drop hk]
theorem get_lt {l : List α} {i : Nat} {a : α} (h : l[i]? = some a) : i < l.length := by
 rcases Nat.lt_or_ge i l.length with hl | hl
 ·exact hl
 rw [List.getElem?_eq_none hl] at h; cases h
theorem get_some (l : List α) {i : Nat} (h : i < l.length) : ∃ a, l[i]? = some a := ⟨_, List.getElem?_eq_getElem h⟩
end
structure Two (w0 w : World) (S1 S2 : Nat → Prop) : Prop where
 dis : ∀ b, S1 b → ¬ S2 b
 one : ∀ b, S1 b → w0.heap.size ≤ b ∧ b < w.heap.size
 two : ∀ b, S2 b → w0.heap.size ≤ b ∧ b < w.heap.size
 below : Below w0.heap.size w0 w
section
variable {w0 w w1 : World} {S1 S2 : Nat → Prop}
theorem Two.left (h : Two w0 w S1 S2) (hc : Chg S1 w w1) : Two w0 w1 (Plus S1 w w1) S2 :=
 ⟨fun b hb h2 => by
   rcases hb with hb | hb
   ·exact h.dis b hb h2
   have := (h.two b h2).2; omega,
  fun b hb => by
   have := hc.size; have := h.below.size
   rcases hb with hb | hb
   ·have := h.one b hb; omega
   omega,
  fun b hb => by have := h.two b hb; have := hc.size; omega,
  h.below.trans (hc.below h.below.size (fun k hk hS => by have := (h.one k hS).1; omega))⟩
theorem Two.none (h : Two w0 w S1 S2) (hc : Chg (fun _ => False) w w1) : Two w0 w1 S1 S2 :=
 ⟨h.dis, fun b hb => by have := h.one b hb; have := hc.size; omega, fun b hb => by have := h.two b hb; have := hc.size; omega, h.below.trans (hc.below h.below.size (fun k hk h => h))⟩
end
end G
namespace G
def idxOf (o : Option Nat) : Int := match o with | none => -1 | some i => (i : Int)
section
variable {α β : Type}
def upTo (f : α → α) (l : List α) (k : Nat) : List α := (l.take k).map f ++ l.drop k
theorem upTo_zero (f : α → α) (l : List α) : upTo f l 0 = l := by simp [upTo]
theorem upTo_all (f : α → α) (l : List α) : upTo f l l.length = l.map f := by simp [upTo]
theorem upTo_length (f : α → α) (l : List α) (k : Nat) : (upTo f l k).length = l.length := by simp [upTo]; omega
theorem upTo_get (f : α → α) (l : List α) (k : Nat) : (upTo f l k)[k]? = l[k]? := by
 unfold upTo
 rcases Nat.lt_or_ge k l.length with h | h
 ·rw [List.getElem?_append_right (by simp; omega)]
  simp; rw [Nat.min_eq_left (by omega), Nat.sub_self]; simp
 rw [List.getElem?_eq_none h, List.getElem?_eq_none]; simp; omega
theorem drop_of_get {l : List α} {k : Nat} {a : α} (h : l[k]? = some a) : l.drop k = a :: l.drop (k + 1) := by
 have hl := get_lt h
 rw [List.drop_eq_getElem_cons hl]
 congr
 rw [List.getElem?_eq_getElem hl] at h; exact Option.some.inj h
theorem take_of_get {l : List α} {k : Nat} {a : α} (h : l[k]? = some a) : l.take (k + 1) = l.take k ++ [a] := by
 rw [List.take_add_one, h]; rfl
theorem upTo_succ {f : α → α} {l : List α} {k : Nat} {a : α} (h : l[k]? = some a) : (upTo f l k).set k (f a) = upTo f l (k + 1) := by
 have hl := get_lt h
 unfold upTo
 have e : k - (List.map f (List.take k l)).length = 0 := by simp; omega
 rw [drop_of_get h, take_of_get h, List.map_append, List.append_assoc, List.set_append_right _ _ (by simp; omega), e]
 simp
theorem upTo_same {f : α → α} {l : List α} {k : Nat} {a : α} (h : l[k]? = some a) (hf : f a = a) : upTo f l (k + 1) = upTo f l k := by
 unfold upTo
 rw [drop_of_get h, take_of_get h, List.map_append, List.append_assoc]
 simp [hf]
def firstAt (p : α → Bool) (l : List α) : Option Nat := l.findIdx? p
theorem firstAt_none {p : α → Bool} {l : List α} (h : ∀ (k : Nat) (a : α), l[k]? = some a → p a = false) : firstAt p l = none := by
 unfold firstAt
 rw [List.findIdx?_eq_none_iff]
 intro x hx
 obtain ⟨k, hk, e⟩ := List.mem_iff_getElem.1 hx
 exact h k x (by rw [List.getElem?_eq_getElem hk, e])
theorem firstAt_some {p : α → Bool} {l : List α} {i : Nat} {a : α} (h : ∀ (k : Nat) (b : α), k < i → l[k]? = some b → p b = false) (hi : l[i]? = some a) (ha : p a = true) : firstAt p l = some i := by
 unfold firstAt
 have hl := get_lt hi
 rw [List.findIdx?_eq_some_iff_getElem]
 rw [List.getElem?_eq_getElem hl] at hi
 refine ⟨hl, by rw [Option.some.inj hi]; exact ha, fun j hj => ?_⟩
 have := h j _ hj (List.getElem?_eq_getElem (by omega))
 simp [this]
theorem firstAt_spec {p : α → Bool} {l : List α} {i : Nat} (h : firstAt p l = some i) : ∃ a, l[i]? = some a ∧ p a = true ∧ ∀ (k : Nat) (b : α), k < i → l[k]? = some b → p b = false := by
 unfold firstAt at h
 rw [List.findIdx?_eq_some_iff_getElem] at h
 obtain ⟨hl, hp, hj⟩ := h
 refine ⟨_, List.getElem?_eq_getElem hl, hp, fun k b hk hb => ?_⟩
 have := hj k hk
 rw [List.getElem?_eq_getElem (by omega)] at hb
 rw [Option.some.inj hb] at this
 simpa using this
theorem firstAt_miss {p : α → Bool} {l : List α} (h : firstAt p l = none) : ∀ (k : Nat) (a : α), l[k]? = some a → p a = false := by
 unfold firstAt at h
 rw [List.findIdx?_eq_none_iff] at h
 exact fun k a ha => h a (List.mem_of_getElem? ha)
theorem count_snoc {p : α → Bool} {l : List α} {k : Nat} {a : α} (h : l[k]? = some a) : (l.take (k + 1)).countP p = (l.take k).countP p + if p a then 1 else 0 := by
 rw [take_of_get h, List.countP_append]
 simp [List.countP_cons, List.countP_nil]
theorem filter_snoc {p : α → Bool} {l : List α} {k : Nat} {a : α} (h : l[k]? = some a) : (l.take (k + 1)).filter p = (l.take k).filter p ++ if p a then [a] else [] := by
 rw [take_of_get h, List.filter_append]
 cases hp : p a <;> simp [hp]
end
end G
namespace G
open Go
structure Pace where
 win : Int
 pods : Int
 pct : Int
 per : Int
def clipT (n : Int) : Int := min (max n 0) 100000
def Pace.fix (p : Pace) : Pace := ⟨clipT p.win, clipT p.pods, clipT p.pct, clipT p.per⟩
def Pace.ok (p : Pace) : Prop := (0 ≤ p.win ∧ p.win ≤ 100000) ∧ (0 ≤ p.pods ∧ p.pods ≤ 100000) ∧ (0 ≤ p.pct ∧ p.pct ≤ 100000) ∧ (0 ≤ p.per ∧ p.per ≤ 100000)
theorem clipT_bd (n : Int) : 0 ≤ clipT n ∧ clipT n ≤ 100000 := by unfold clipT; omega
theorem Pace.fix_ok (p : Pace) : p.fix.ok := ⟨clipT_bd _, clipT_bd _, clipT_bd _, clipT_bd _⟩
def Pace.limited (p : Pace) : Bool := decide (0 < p.per) && (decide (0 < p.pods) || decide (0 < p.pct))
abbrev Mark := Int × Int
def encM (m : Mark) : List Value := [.int .i64 m.1, .int .i64 m.2]
theorem encM_length (m : Mark) : (encM m).length = 2 := rfl
def behindL (l : List Mark) (at0 : Int) : List Mark := (l.reverse.takeWhile (fun m => decide (at0 < m.1))).reverse
theorem behind_eq {l : List Mark} {at0 : Int} {i : Nat} (hi : i ≤ l.length) (h : ∀ m ∈ l.drop i, at0 < m.1) (h0 : i = 0 ∨ ∃ m, l[i - 1]? = some m ∧ m.1 ≤ at0) : behindL l at0 = l.drop i := by
 have e : l.reverse = (l.drop i).reverse ++ (l.take i).reverse := by rw [← List.reverse_append, List.take_append_drop]
 unfold behindL
 rw [e, List.takeWhile_append_of_pos (fun m hm => by simpa using h m (List.mem_reverse.1 hm))]
 have : (l.take i).reverse.takeWhile (fun m => decide (at0 < m.1)) = [] := by
  rcases h0 with h0 | ⟨m, hm, hle⟩
  ·subst h0; simp
  have hp : 0 < i := by
   rcases Nat.eq_zero_or_pos i with hz | hz
   ·exfalso; subst hz
    have := h m (by simpa using List.mem_of_getElem? hm)
    omega
   exact hz
  have : l.take i = l.take (i - 1) ++ [m] := by
   have := take_of_get hm
   rwa [show i - 1 + 1 = i by omega] at this
  have hd : decide (at0 < m.1) = false := by simp; omega
  rw [this, List.reverse_append]
  simp only [List.reverse_cons, List.reverse_nil, List.nil_append, List.cons_append, List.takeWhile_cons, hd]
  rfl
 rw [this, List.append_nil, List.reverse_reverse]
theorem behindL_mem {l : List Mark} {at0 : Int} : ∀ m ∈ behindL l at0, m ∈ l := fun m hm => by
 unfold behindL at hm
 exact List.mem_reverse.1 ((List.takeWhile_sublist _).subset (List.mem_reverse.1 hm))
theorem behindL_length (l : List Mark) (at0 : Int) : (behindL l at0).length ≤ l.length := by
 unfold behindL
 rw [List.length_reverse]
 exact Nat.le_trans (List.takeWhile_sublist _).length_le (by rw [List.length_reverse]; exact Nat.le_refl _)
theorem ceilc_bd (a : Int) : -1000000000000000 ≤ ceilc a 100 ∧ ceilc a 100 ≤ 1000000000000000 := by
 have : -1000000000000000 ≤ clip a ∧ clip a ≤ 1000000000000000 := by unfold clip; split <;> (try split) <;> omega
 have e : clip 100 = 100 := by decide
 unfold ceilc; rw [e]; omega
theorem sharec_bd (a m : Int) : -1000000000000000 ≤ sharec a m ∧ sharec a m ≤ 1000000000000000 := by
 unfold sharec; unfold clip; split <;> (try split) <;> omega
theorem mul_bd {a b x y : Int} (h0 : 0 ≤ a) (h1 : a ≤ x) (h2 : 0 ≤ b) (h3 : b ≤ y) : 0 ≤ a * b ∧ a * b ≤ x * y := ⟨Int.mul_nonneg h0 h2, Int.mul_le_mul h1 h3 h2 (by omega)⟩
def minAll (l : List Mark) (x : Int) : Int := l.foldl (fun a m => min a m.2) x
def maxAll (l : List Mark) (x : Int) : Int := l.foldl (fun a m => max a m.2) x
def sumUp (l : List Mark) (x : Int) : Int := l.foldl (fun a m => a + max m.2 0) x
def sumDown (l : List Mark) (x : Int) : Int := l.foldl (fun a m => a + max (-m.2) 0) x
theorem fold_snoc {α β : Type} {f : β → α → β} {l : List α} {k : Nat} {m : α} {x : β} (h : l[k]? = some m) : (l.take (k + 1)).foldl f x = f ((l.take k).foldl f x) m := by rw [take_of_get h, List.foldl_append]; rfl
theorem minAll_bd : ∀ (l : List Mark) (x : Int), 0 ≤ x → x ≤ 50 → (∀ m ∈ l, 0 ≤ m.2 ∧ m.2 ≤ 50) → 0 ≤ minAll l x ∧ minAll l x ≤ 50
 | [], x, h0, h1, _ => ⟨h0, h1⟩
 | a :: l, x, h0, h1, h => by
  have := h a (by simp)
  exact minAll_bd l (min x a.2) (by omega) (by omega) (fun m hm => h m (by simp [hm]))
theorem maxAll_bd : ∀ (l : List Mark) (x : Int), 0 ≤ x → x ≤ 50 → (∀ m ∈ l, 0 ≤ m.2 ∧ m.2 ≤ 50) → 0 ≤ maxAll l x ∧ maxAll l x ≤ 50
 | [], x, h0, h1, _ => ⟨h0, h1⟩
 | a :: l, x, h0, h1, h => by
  have := h a (by simp)
  exact maxAll_bd l (max x a.2) (by omega) (by omega) (fun m hm => h m (by simp [hm]))
theorem sumUp_bd : ∀ (l : List Mark) (x : Int), (∀ m ∈ l, -50 ≤ m.2 ∧ m.2 ≤ 50) → x ≤ sumUp l x ∧ sumUp l x ≤ x + 50 * l.length
 | [], x, _ => ⟨by simp [sumUp], by simp [sumUp]⟩
 | a :: l, x, h => by
  have := h a (by simp)
  have ih := sumUp_bd l (x + max a.2 0) (fun m hm => h m (by simp [hm]))
  have e : sumUp (a :: l) x = sumUp l (x + max a.2 0) := rfl
  rw [e, List.length_cons]; omega
theorem sumDown_bd : ∀ (l : List Mark) (x : Int), (∀ m ∈ l, -50 ≤ m.2 ∧ m.2 ≤ 50) → x ≤ sumDown l x ∧ sumDown l x ≤ x + 50 * l.length
 | [], x, _ => ⟨by simp [sumDown], by simp [sumDown]⟩
 | a :: l, x, h => by
  have := h a (by simp)
  have ih := sumDown_bd l (x + max (-a.2) 0) (fun m hm => h m (by simp [hm]))
  have e : sumDown (a :: l) x = sumDown l (x + max (-a.2) 0) := rfl
  rw [e, List.length_cons]; omega
structure Stb where
 up : Pace
 down : Pace
 last : Int
 wanted : List Mark
 moved : List Mark
structure Stb.ok (s : Stb) (j : Nat) : Prop where
 up : s.up.ok
 down : s.down.ok
 last0 : 0 ≤ s.last
 last1 : s.last ≤ 1099511627776
 wan : ∀ m ∈ s.wanted, (0 ≤ m.2 ∧ m.2 ≤ 50) ∧ (0 ≤ m.1 ∧ m.1 ≤ s.last)
 mov : ∀ m ∈ s.moved, (-50 ≤ m.2 ∧ m.2 ≤ 50) ∧ (0 ≤ m.1 ∧ m.1 ≤ s.last)
 wsort : s.wanted.Pairwise (fun a b => a.1 ≤ b.1)
 msort : s.moved.Pairwise (fun a b => a.1 ≤ b.1)
 wlen : s.wanted.length ≤ j
 mlen : s.moved.length ≤ j
def baseUp (s : Stb) (now have0 : Int) : Int := max (have0 - sumUp (behindL s.moved (now - s.up.per)) 0) 0
def moreN (s : Stb) (now have0 want : Int) : Int :=
 let w1 := minAll (behindL s.wanted (now - s.up.win)) want
 max (if s.up.limited then min w1 (baseUp s now have0 + max s.up.pods (ceilc (baseUp s now have0 * s.up.pct) 100)) else w1) have0
def baseDown (s : Stb) (now have0 : Int) : Int := sumDown (behindL s.moved (now - s.down.per)) have0
def fewerN (s : Stb) (now have0 want : Int) : Int :=
 let w1 := maxAll (behindL s.wanted (now - s.down.win)) want
 min (if s.down.limited then max w1 (baseDown s now have0 - max s.down.pods (sharec (baseDown s now have0) (10 * s.down.pct))) else w1) have0
def settleOk (s : Stb) (now have0 want : Int) : Bool := decide (s.last ≤ now) && decide (now ≤ 1099511627776) && (decide (0 ≤ have0) && decide (have0 ≤ 50)) && (decide (0 ≤ want) && decide (want ≤ 50))
def Stb.seen (s : Stb) (now want : Int) : Stb := { s with last := now, wanted := s.wanted ++ [(now, want)] }
def settleN0 (s : Stb) (now have0 want : Int) : Int := if have0 < want then moreN s now have0 want else if want < have0 then fewerN s now have0 want else have0
def settleN (s : Stb) (now have0 want : Int) : Int := if settleOk s now have0 want then settleN0 (s.seen now want) now have0 want else 0
def settleE (s : Stb) (now have0 want : Int) : Int := if settleOk s now have0 want then 0 else 1
def Stb.went (s : Stb) (now n : Int) : Stb := { s with moved := s.moved ++ [(now, n)] }
def settleS (s : Stb) (now have0 want : Int) : Stb :=
 if settleOk s now have0 want then (if settleN0 (s.seen now want) now have0 want = have0 then s.seen now want else (s.seen now want).went now (settleN0 (s.seen now want) now have0 want - have0)) else s
end G
namespace G
def picks (kind : Int) (k : Nat) (x : Int) : Bool := decide (0 < x) && (decide (kind = 1) || decide (k = 0))
def metN (kind : Int) (f : Nat → Int) : Nat → Int
 | 0 => 0
 | k + 1 => if picks kind k (f k) then addc (metN kind f k) (f k) else metN kind f k
def metM (kind : Int) (f : Nat → Int) : Nat → Nat
 | 0 => 0
 | k + 1 => if picks kind k (f k) then metM kind f k + 1 else metM kind f k
def spot (xs : List Int) (i : Nat) : Int := (xs[i]?).getD 0
theorem spot_get {xs : List Int} {i : Nat} {x : Int} (h : xs[i]? = some x) : spot xs i = x := by unfold spot; rw [h]; rfl
theorem metN_bd (kind : Int) (f : Nat → Int) (k : Nat) : 0 ≤ metN kind f k ∧ metN kind f k ≤ 1000000000000000 := by
 induction k with
 | zero => exact ⟨Int.le_refl _, by unfold metN; omega⟩
 | succ k ih =>
  unfold metN
  split
  ·rename_i h
   unfold picks at h
   simp only [Bool.and_eq_true, decide_eq_true_eq] at h
   have h1 := clip_hi (clip (metN kind f k) + clip (f k))
   have h2 := clip_nonneg (show 0 ≤ clip (metN kind f k) + clip (f k) by
    have := clip_nonneg ih.1; have := clip_nonneg (show 0 ≤ f k by omega); omega)
   exact ⟨h2, h1⟩
  exact ih
theorem metM_le (kind : Int) (f : Nat → Int) (k : Nat) : metM kind f k ≤ k := by
 induction k with
 | zero => exact Nat.le_refl _
 | succ k ih => unfold metM; split <;> omega
end G
namespace Go.Proofs.YtidonhndeohdlaaGreat
open Go.RowKit
def partCells (l : List (Int × Int)) : List Value := l.flatMap fun p => [.int .i64 p.1, .int .i64 p.2]
theorem partCells_get0 : ∀ (l : List (Int × Int)) (k : Nat) (e o : Int), l[k]? = some (e, o) → (partCells l)[k * 2]? = some (.int .i64 e) ∧ (partCells l)[k * 2 + 1]? = some (.int .i64 o)
 | [], k, e, o, h => by simp at h
 | p :: l, 0, e, o, h => by
  simp at h; subst h; exact ⟨rfl, rfl⟩
 | p :: l, k + 1, e, o, h => by
  have := partCells_get0 l k e o (by simpa using h)
  have e1 : (k + 1) * 2 = k * 2 + 2 := by omega
  rw [e1]
  exact this
theorem partCells_set1 : ∀ (l : List (Int × Int)) (k : Nat) (e o e' : Int), l[k]? = some (e, o) → (partCells l).set (k * 2) (.int .i64 e') = partCells (l.set k (e', o))
 | [], k, e, o, e', h => by simp at h
 | p :: l, 0, e, o, e', h => by
  simp at h; subst h; rfl
 | p :: l, k + 1, e, o, e', h => by
  have := partCells_set1 l k e o e' (by simpa using h)
  have e1 : (k + 1) * 2 = k * 2 + 2 := by omega
  rw [e1]
  show _ :: _ :: (partCells l).set (k * 2) _ = _ :: _ :: partCells (l.set k _)
  rw [this]
theorem partCells_set2 : ∀ (l : List (Int × Int)) (k : Nat) (e o o' : Int), l[k]? = some (e, o) → (partCells l).set (k * 2 + 1) (.int .i64 o') = partCells (l.set k (e, o'))
 | [], k, e, o, e', h => by simp at h
 | p :: l, 0, e, o, e', h => by
  simp at h; subst h; rfl
 | p :: l, k + 1, e, o, e', h => by
  have := partCells_set2 l k e o e' (by simpa using h)
  have e1 : (k + 1) * 2 + 1 = k * 2 + 1 + 2 := by omega
  rw [e1]
  show _ :: _ :: (partCells l).set (k * 2 + 1) _ = _ :: _ :: partCells (l.set k _)
  rw [this]
structure TopicAt (w : World) (g p : Nat) (l : List (Int × Int)) : Prop where
 head : G.At w g 120 #[.slice (some ⟨p, 0, none⟩) l.length l.length]
 parts : G.At w p 134 (partCells l).toArray
 small : l.length ≤ 20
theorem TopicAt.apart {w : World} {g p : Nat} {l : List (Int × Int)} (h : TopicAt w g p l) : g ≠ p := h.head.apart h.parts (by decide)
theorem TopicAt.put1 {w : World} {g p : Nat} {l : List (Int × Int)} (h : TopicAt w g p l) {n : Nat} {e o : Int} (hn : l[n]? = some (e, o)) (e' : Int) :
  TopicAt ((w.setCell ⟨p, n * 2, none⟩ (.int .i64 e')).drew) g p (l.set n (e', o)) ∧ G.Chg (· = p) w ((w.setCell ⟨p, n * 2, none⟩ (.int .i64 e')).drew) := by
 refine ⟨⟨?_, ?_, by simpa using h.small⟩, ((G.Chg.refl (· = p) w).put (p := ⟨p, n * 2, none⟩) (.inl rfl) _).drew⟩
 ·have := (h.head.other (p := ⟨p, n * 2, none⟩) h.apart (.int .i64 e')).drew
  rw [List.length_set]; exact this
 have := (h.parts.put (n * 2) (.int .i64 e')).drew
 rw [← partCells_set1 l n e o e' hn]
 simpa using this
theorem TopicAt.put2 {w : World} {g p : Nat} {l : List (Int × Int)} (h : TopicAt w g p l) {n : Nat} {e o : Int} (hn : l[n]? = some (e, o)) (o' : Int) :
  TopicAt (w.setCell ⟨p, n * 2 + 1, none⟩ (.int .i64 o')) g p (l.set n (e, o')) ∧ G.Chg (· = p) w (w.setCell ⟨p, n * 2 + 1, none⟩ (.int .i64 o')) := by
 refine ⟨⟨?_, ?_, by simpa using h.small⟩, (G.Chg.refl (· = p) w).put (p := ⟨p, n * 2 + 1, none⟩) (.inl rfl) _⟩
 ·have := h.head.other (p := ⟨p, n * 2 + 1, none⟩) h.apart (.int .i64 o')
  rw [List.length_set]; exact this
 have := h.parts.put (n * 2 + 1) (.int .i64 o')
 rw [← partCells_set2 l n e o o' hn]
 simpa using this
theorem TopicAt.chg {S : Nat → Prop} {w w' : World} {g p : Nat} {l : List (Int × Int)} (h : TopicAt w g p l) (hc : G.Chg S w w') (hg : ¬ S g) (hp : ¬ S p) : TopicAt w' g p l :=
 ⟨h.head.chg hc hg, h.parts.chg hc hp, h.small⟩
theorem topMake_none (g p : Nat) (l : List (Int × Int)) (n k : Int) (w : World) (ht : TopicAt w g p l) (h : n < 0 ∨ (l.length : Int) ≤ n) :
  Calls Tryz.prog 19 #[.pointer (some ⟨g, 0, none⟩), .int .i64 n, .int .i64 k] w fun e w' => e = .returned (.int .i64 4) ∧ w = w' := by
 have hc := ht.head.here (i := 0) rfl
 by_cases h0 : n < 0
 ·clear h
  go_enter Tryz.func19, Tryz.ntmps19
  go_wp2
  go_ret
  exact ⟨rfl, rfl⟩
 have h1 : (l.length : Int) ≤ n := by omega
 clear h
 go_enter Tryz.func19, Tryz.ntmps19
 go_wp2
 go_ret
 exact ⟨rfl, rfl⟩
theorem topMake_yes (g p : Nat) (l : List (Int × Int)) (n : Nat) (k e o : Int) (w : World) (ht : TopicAt w g p l) (hn : l[n]? = some (e, o)) (k0 : 1 ≤ k) (k1 : k ≤ 100000) :
  Calls Tryz.prog 19 #[.pointer (some ⟨g, 0, none⟩), .int .i64 n, .int .i64 k] w fun en w' => en = .returned (.int .i64 0) ∧ TopicAt w' g p (l.set n (G.addc e k, o)) ∧ G.Chg (· = p) w w' := by
 have hc := ht.head.here (i := 0) rfl
 have hlt : n < l.length := by
  rcases Nat.lt_or_ge n l.length with h | h
  ·exact h
  rw [List.getElem?_eq_none h] at hn; cases hn
 have hs := ht.small
 have hp : w.cell? ⟨p, n * 2, none⟩ = some (.int .i64 e) := ht.parts.here (by simpa using (partCells_get0 l n e o hn).1)
 have hf : w.frozen? ⟨p, n * 2, none⟩ = false := ht.parts.soft _
 have HT := J ht; have HN := J hn
 clear ht hn
 go_enter Tryz.func19, Tryz.ntmps19
 go_wp2_with fail
 go_region_with (go_at_call 66; refine (numAdd _ _ _).mono ?_; rintro e w' ⟨rfl, rfl⟩)
 all_goals
  go_wp2
  go_ret
  exact ⟨rfl, HT.u.put1 HN.u _⟩
theorem topMake_arg (g p : Nat) (l : List (Int × Int)) (n k : Int) (w : World) (ht : TopicAt w g p l) (n0 : 0 ≤ n) (n1 : n < (l.length : Int)) (h : k < 1 ∨ 100000 < k) :
  Calls Tryz.prog 19 #[.pointer (some ⟨g, 0, none⟩), .int .i64 n, .int .i64 k] w fun e w' => e = .returned (.int .i64 1) ∧ w = w' := by
 have hc := ht.head.here (i := 0) rfl
 by_cases h0 : k < 1
 ·clear h
  go_enter Tryz.func19, Tryz.ntmps19
  go_wp2
  go_ret
  exact ⟨rfl, rfl⟩
 have h1 : 100000 < k := by omega
 have h2 : 1 ≤ k := by omega
 clear h h0
 go_enter Tryz.func19, Tryz.ntmps19
 go_wp2
 go_ret
 exact ⟨rfl, rfl⟩
theorem topTake_none (g p : Nat) (l : List (Int × Int)) (n k : Int) (w : World) (ht : TopicAt w g p l) (h : n < 0 ∨ (l.length : Int) ≤ n) :
  Calls Tryz.prog 20 #[.pointer (some ⟨g, 0, none⟩), .int .i64 n, .int .i64 k] w fun e w' => e = .returned (.int .i64 4) ∧ w = w' := by
 have hc := ht.head.here (i := 0) rfl
 by_cases h0 : n < 0
 ·clear h
  go_enter Tryz.func20, Tryz.ntmps20
  go_wp2
  go_ret
  exact ⟨rfl, rfl⟩
 have h1 : (l.length : Int) ≤ n := by omega
 clear h
 go_enter Tryz.func20, Tryz.ntmps20
 go_wp2
 go_ret
 exact ⟨rfl, rfl⟩
theorem topTake_yes (g p : Nat) (l : List (Int × Int)) (n : Nat) (k e o : Int) (w : World) (ht : TopicAt w g p l) (hn : l[n]? = some (e, o)) (k0 : o ≤ k) (k1 : k ≤ e) :
  Calls Tryz.prog 20 #[.pointer (some ⟨g, 0, none⟩), .int .i64 n, .int .i64 k] w fun en w' => en = .returned (.int .i64 0) ∧ TopicAt w' g p (l.set n (e, k)) ∧ G.Chg (· = p) w w' := by
 have hc := ht.head.here (i := 0) rfl
 have hlt : n < l.length := by
  rcases Nat.lt_or_ge n l.length with h | h
  ·exact h
  rw [List.getElem?_eq_none h] at hn; cases hn
 have hs := ht.small
 have hp : w.cell? ⟨p, n * 2, none⟩ = some (.int .i64 e) := ht.parts.here (by simpa using (partCells_get0 l n e o hn).1)
 have hp' : w.cell? ⟨p, n * 2 + 1, none⟩ = some (.int .i64 o) := ht.parts.here (by simpa using (partCells_get0 l n e o hn).2)
 have hf : w.frozen? ⟨p, n * 2 + 1, none⟩ = false := ht.parts.soft _
 have HT := J ht; have HN := J hn
 clear ht hn
 go_enter Tryz.func20, Tryz.ntmps20
 go_wp2_with fail
 go_ret
 exact ⟨rfl, HT.u.put2 HN.u _⟩
theorem topTake_arg (g p : Nat) (l : List (Int × Int)) (n : Nat) (k e o : Int) (w : World) (ht : TopicAt w g p l) (hn : l[n]? = some (e, o)) (h : k < o ∨ e < k) :
  Calls Tryz.prog 20 #[.pointer (some ⟨g, 0, none⟩), .int .i64 n, .int .i64 k] w fun en w' => en = .returned (.int .i64 1) ∧ w = w' := by
 have hc := ht.head.here (i := 0) rfl
 have hlt : n < l.length := by
  rcases Nat.lt_or_ge n l.length with h | h
  ·exact h
  rw [List.getElem?_eq_none h] at hn; cases hn
 have hs := ht.small
 have hp : w.cell? ⟨p, n * 2, none⟩ = some (.int .i64 e) := ht.parts.here (by simpa using (partCells_get0 l n e o hn).1)
 have hp' : w.cell? ⟨p, n * 2 + 1, none⟩ = some (.int .i64 o) := ht.parts.here (by simpa using (partCells_get0 l n e o hn).2)
 clear ht hn
 by_cases h0 : k < o
 ·clear h
  go_enter Tryz.func20, Tryz.ntmps20
  go_wp2_with fail
  go_ret
  exact ⟨rfl, rfl⟩
 have h1 : e < k := by omega
 have h2 : o ≤ k := by omega
 clear h h0
 go_enter Tryz.func20, Tryz.ntmps20
 go_wp2_with fail
 go_ret
 exact ⟨rfl, rfl⟩
open Go.RowKit
theorem info_int : (Tryz.prog.info? 3).map (fun i => (i.zero, i.size, i.bytes)) = some (some (.int .i64 0), 1, 8) := by kernel_rfl
theorem info_part : (Tryz.prog.info? 134).map (fun i => (i.zero, i.size, i.bytes)) = some (some (.agg #[.int .i64 0, .int .i64 0]), 2, 16) := by kernel_rfl
def lagsOf (l : List (Int × Int)) : List Int := l.map fun p => p.1 - p.2
def OwnInts (B : Nat) (w : World) (v : Value) (xs : List Int) : Prop := w.ownsRow B 3 1 v xs.length (xs.map (Value.int .i64))
def LagsPost (w0 : World) (xs : List Int) (e : Ending) (w' : World) : Prop := ∃ v, e = .returned v ∧ OwnInts w0.heap.size w' v xs ∧ Below w0.heap.size w0 w'
def Small (l : List (Int × Int)) : Prop := ∀ p ∈ l, 0 ≤ p.2 ∧ p.2 ≤ p.1 ∧ p.1 ≤ 1000000000000000
theorem take_lags (l : List (Int × Int)) (k : Nat) (e o : Int) (h : l[k]? = some (e, o)) : lagsOf (l.take (k + 1)) = lagsOf (l.take k) ++ [e - o] := by
 unfold lagsOf
 rw [List.take_add_one, h]
 simp
theorem below_app {w wr w1 : World} {o o' : Obj} {v : Value} {xs : List Int} (hb : Below w.heap.size w wr) (ho : OwnInts w.heap.size wr v xs) (hg : ((wr.alloc o).alloc o').grownBy w1 v.ownBlock) : Below w.heap.size w w1 :=
 (((hb.alloc hb.size _).alloc (by have := hb.size; simp; omega) _)).grown hg (by have := hb.size; simp; omega) (G.own_ge ho)
theorem own_lags {l : List (Int × Int)} {k : Nat} {e o : Int} {B : Nat} {w : World} {v : Value} (h : l[k]? = some (e, o))
  (ho : w.ownsRow B 3 1 v ((lagsOf (l.take k)).length + 1) ((lagsOf (l.take k)).map (Value.int .i64) ++ [.int .i64 (e - o)])) : OwnInts B w v (lagsOf (l.take (k + 1))) := by
 rw [take_lags l k e o h]
 unfold OwnInts
 simpa using ho
theorem topLags (g p : Nat) (l : List (Int × Int)) (w : World) (ht : TopicAt w g p l) (hsm : Small l) :
  Calls Tryz.prog 94 #[.pointer (some ⟨g, 0, none⟩)] w (LagsPost w (lagsOf l)) := by
 have hc := ht.head.here (i := 0) rfl
 have hs := ht.small
 have hpl := ht.parts.inside
 have HT := J ht; have HS := J hsm
 obtain ⟨i0, hi, hz0, hz1, hz2⟩ := info_parts info_int
 clear ht hsm
 go_enter Tryz.func94, Tryz.ntmps94
 go_wp2_with fail
 go_loopw [3, 11] (fun v i wr => ∃ k : Nat, k ≤ l.length ∧ i = .int .i64 k ∧ Hid (OwnInts w.heap.size wr v (lagsOf (l.take k))) ∧ Below w.heap.size w wr) (fun _ i _ => l.length - (intOf i).toNat)
 case atStart => exact ⟨0, by omega, rfl, ⟨by simp [lagsOf], .inl ⟨rfl, by simp [lagsOf]⟩⟩, Below.refl _ _⟩
 obtain ⟨k, hk, rfl, hown, hbw⟩ := hrel
 by_cases hlt : k < l.length
 ·obtain ⟨⟨e, o⟩, hn⟩ : ∃ q, l[k]? = some q := ⟨_, List.getElem?_eq_getElem hlt⟩
  have hmem : (e, o) ∈ l := List.mem_of_getElem? hn
  obtain ⟨o0, o1, e1⟩ := HS.u _ hmem
  simp only at o0 o1 e1
  have hp : wr.cell? ⟨p, k * 2, none⟩ = some (.int .i64 e) := (hbw.cell (p := ⟨p, k * 2, none⟩) hpl).trans (HT.u.parts.here (by simpa using (partCells_get0 l k e o hn).1))
  have hp' : wr.cell? ⟨p, k * 2 + 1, none⟩ = some (.int .i64 o) := (hbw.cell (p := ⟨p, k * 2 + 1, none⟩) hpl).trans (HT.u.parts.here (by simpa using (partCells_get0 l k e o hn).2))
  have HN := J hn
  clear hn hmem
  have hlen : Hid ((lagsOf (l.take k)).length = k) := by show _ = _; unfold lagsOf; simp; omega
  go_wp2_with (at_builtin; refine wpList_append_own _ rfl (.tmp 15) (.tmp 21) 68 rfl w.heap.size 3 i0 (.int .i64 0) 1 8 Tryz.underlying68 hi hz0 hz1 hz2 rfl (by decide) _ _ _ rfl ((hown.u.alloc _).alloc _) ⟨wr.heap.size + 1, 0, none⟩ 1 1 [.int .i64 (e - o)] rfl rfl ?c1 ?c2 ?c3 ?c4 ?c5 ?_)
  case c1 => exact G.new_one (by simp)
  case c2 => simp [Value.oneCell']
  case c3 => rw [hlen.u]; simp only [maxLen]; omega
  case c4 => rw [hlen.u]; omega
  case c5 => have := hbw.size; simp; omega
  intro v' w1 hown1 hg1 _
  have hb1 := below_app hbw hown.u hg1
  have ho1 := own_lags HN.u hown1
  clear hown1 hg1 hown hbw hlen hp hp' HN
  go_wp2_with fail
  go_roundw
  case rel => exact ⟨k + 1, by omega, by go_num, ho1, hb1⟩
  case measure => simp [intOf]; omega
 go_wp2_with fail
 go_ret
 exact ⟨_, rfl, by have := hown.u; rw [List.take_of_length_le (by omega)] at this; exact this, hbw⟩
def NewPost (w0 : World) (n : Nat) (e : Ending) (w' : World) : Prop := ∃ g p : Nat, e = .returned (.tuple #[.pointer (some ⟨g, 0, none⟩), .int .i64 0]) ∧ TopicAt w' g p (List.replicate n (0, 0)) ∧ w0.heap.size ≤ g ∧ w0.heap.size ≤ p ∧ Below w0.heap.size w0 w'
theorem partCells_zero : ∀ n : Nat, partCells (List.replicate n (0, 0)) = List.replicate (n * 2) (.int .i64 0)
 | 0 => rfl
 | n + 1 => by
  rw [List.replicate_succ, show (n + 1) * 2 = n * 2 + 1 + 1 by omega, List.replicate_succ, List.replicate_succ, ← partCells_zero n]
  rfl
theorem madeCells_two (n : Nat) : madeCells #[.int .i64 0, .int .i64 0] (n * 2) = (List.replicate (n * 2) (Value.int .i64 0)).toArray := by
 unfold madeCells
 apply Array.ext
 ·simp
 intro i h1 h2
 have hm : i % 2 = 0 ∨ i % 2 = 1 := by omega
 simp
 rcases hm with hm | hm <;> rw [hm] <;> rfl
theorem topNew (n : Nat) (h0 : 1 ≤ n) (h1 : n ≤ 20) (w : World) :
  Calls Tryz.prog 12 #[.int .i64 n] w (NewPost w n) := by
 have hmk : ∀ W : World, (Instr.makeSlice 118 (.int .i64 (n : Int)) (.int .i64 (n : Int))).run Tryz.prog W = .ok (.slice (some ⟨W.heap.size, 0, none⟩) n n) (W.alloc (.cells (partCells (List.replicate n (0, 0))).toArray 134)) := fun W => by
  obtain ⟨i0, hi, hz0, hz1, hz2⟩ := info_parts info_part
  have := run_make (P := Tryz.prog) W 118 134 i0 _ Tryz.underlying118 hi hz0 .i64 .i64 n n (by omega) (by omega) (by rw [hz2]; omega) (by omega)
  rw [Int.toNat_natCast, hz1] at this
  rw [this, partCells_zero, ← madeCells_two]
  rfl
 have k0 : (1 : Int) ≤ n := by omega
 have k1 : (n : Int) ≤ 20 := by omega
 obtain ⟨C, hC⟩ : ∃ C, (partCells (List.replicate n (0, 0))).toArray = C := ⟨_, rfl⟩
 rw [hC] at hmk
 have HC := J hC
 clear hC
 go_enter Tryz.func12, Tryz.ntmps12
 go_wp2_with fail
 go_ret2
 have hp : G.At ((w.alloc (.cells C 134)).alloc (.cells #[.slice (some ⟨w.heap.size, 0, none⟩) n n] 120)) w.heap.size 134 C := (G.At.made w _ C).alloc _
 have hg : G.At ((w.alloc (.cells C 134)).alloc (.cells #[.slice (some ⟨w.heap.size, 0, none⟩) n n] 120)) (w.heap.size + 1) 120 #[.slice (some ⟨w.heap.size, 0, none⟩) n n] := by
  have := G.At.made (w.alloc (.cells C 134)) 120 #[.slice (some ⟨w.heap.size, 0, none⟩) n n]
  rw [World.size_alloc] at this
  exact this
 exact ⟨w.heap.size + 1, w.heap.size, rfl, ⟨by rw [List.length_replicate]; exact hg, by rw [HC.u]; exact hp, by simpa using h1⟩, by omega, by omega, ((Below.refl _ _).alloc (Nat.le_refl _) _).alloc (by simp) _⟩
theorem topNew_no (n : Int) (h : n < 1 ∨ 20 < n) (w : World) :
  Calls Tryz.prog 12 #[.int .i64 n] w fun e w' => e = .returned (.tuple #[.pointer none, .int .i64 1]) ∧ w = w' := by
 by_cases h0 : n < 1
 ·clear h
  go_enter Tryz.func12, Tryz.ntmps12
  go_wp2
  go_ret2
  exact ⟨rfl, rfl⟩
 have h1 : 20 < n := by omega
 have h2 : 1 ≤ n := by omega
 clear h h0
 go_enter Tryz.func12, Tryz.ntmps12
 go_wp2
 go_ret2
 exact ⟨rfl, rfl⟩
open Go.RowKit
/-! what Make and Take do to the list -/
def entry (l : List (Int × Int)) (i : Int) : Option (Int × Int) := if 0 ≤ i then l[i.toNat]? else none
def makeErr (l : List (Int × Int)) (i n : Int) : Int := if (entry l i).isNone then 4 else if n < 1 ∨ 100000 < n then 1 else 0
def makeLst (l : List (Int × Int)) (i n : Int) : List (Int × Int) := if n < 1 ∨ 100000 < n then l else match entry l i with | none => l | some (e, o) => l.set i.toNat (G.clip (e + n), o)
def takeErr (l : List (Int × Int)) (i n : Int) : Int := match entry l i with | none => 4 | some (e, o) => if n < o ∨ e < n then 1 else 0
def takeLst (l : List (Int × Int)) (i n : Int) : List (Int × Int) := match entry l i with | none => l | some (e, o) => if n < o ∨ e < n then l else l.set i.toNat (e, n)
theorem makeLst_length (l : List (Int × Int)) (i n : Int) : (makeLst l i n).length = l.length := by unfold makeLst; split; rfl; split <;> simp
theorem takeLst_length (l : List (Int × Int)) (i n : Int) : (takeLst l i n).length = l.length := by unfold takeLst; split; rfl; split <;> simp
theorem entry_some {l : List (Int × Int)} {i : Int} {e o : Int} (h : entry l i = some (e, o)) : 0 ≤ i ∧ l[i.toNat]? = some (e, o) := by
 unfold entry at h; split at h
 ·exact ⟨by assumption, h⟩
 cases h
theorem entry_none {l : List (Int × Int)} {i : Int} (h : entry l i = none) : i < 0 ∨ (l.length : Int) ≤ i := by
 unfold entry at h; split at h
 ·rename_i h0
  have : l.length ≤ i.toNat := by simpa using h
  omega
 omega
theorem Small.makes {l : List (Int × Int)} (h : Small l) (i n : Int) : Small (makeLst l i n) := by
 unfold makeLst; split
 ·exact h
 split
 ·exact h
 rename_i hn _ e o he
 obtain ⟨h0, hx⟩ := entry_some he
 have hm := h _ (List.mem_of_getElem? hx)
 simp only at hm
 intro q hq
 rcases List.mem_or_eq_of_mem_set hq with h1 | rfl
 ·exact h q h1
 have := G.clip_spec (e + n)
 simp only
 omega
theorem Small.takes {l : List (Int × Int)} (h : Small l) (i n : Int) : Small (takeLst l i n) := by
 unfold takeLst; split
 ·exact h
 rename_i e o he
 split
 ·exact h
 obtain ⟨h0, hx⟩ := entry_some he
 have hm := h _ (List.mem_of_getElem? hx)
 simp only at hm
 intro q hq
 rcases List.mem_or_eq_of_mem_set hq with h1 | rfl
 ·exact h q h1
 simp only; omega
theorem addc_eq {e n : Int} (h0 : 0 ≤ e) (h1 : e ≤ 1000000000000000) (h2 : 1 ≤ n) (h3 : n ≤ 100000) : G.addc e n = G.clip (e + n) := by
 unfold G.addc; rw [G.clip_id (by omega) h1, G.clip_id (n := n) (by omega) (by omega)]
theorem topMake_any (g p : Nat) (l : List (Int × Int)) (i n : Int) (w : World) (ht : TopicAt w g p l) (hs : Small l) :
  Calls Tryz.prog 19 #[.pointer (some ⟨g, 0, none⟩), .int .i64 i, .int .i64 n] w fun en w' => en = .returned (.int .i64 (makeErr l i n)) ∧ TopicAt w' g p (makeLst l i n) ∧ G.Chg (· = p) w w' := by
 cases he : entry l i with
 | none =>
  have e1 : makeErr l i n = 4 := by unfold makeErr; rw [he]; rfl
  have e2 : makeLst l i n = l := by unfold makeLst; rw [he]; split <;> rfl
  rw [e1, e2]
  exact (topMake_none g p l i n w ht (entry_none he)).mono fun _ _ ⟨a, b⟩ => ⟨a, b ▸ ht, b ▸ G.Chg.refl _ _⟩
 | some q =>
  obtain ⟨e, o⟩ := q
  obtain ⟨h0, hx⟩ := entry_some he
  have hlt : i.toNat < l.length := by
   rcases Nat.lt_or_ge i.toNat l.length with h | h
   ·exact h
   rw [List.getElem?_eq_none h] at hx; cases hx
  by_cases hn : n < 1 ∨ 100000 < n
  ·have e1 : makeErr l i n = 1 := by unfold makeErr; rw [he]; simp [hn]
   have e2 : makeLst l i n = l := by unfold makeLst; rw [if_pos hn]
   rw [e1, e2]
   exact (topMake_arg g p l i n w ht h0 (by omega) hn).mono fun _ _ ⟨a, b⟩ => ⟨a, b ▸ ht, b ▸ G.Chg.refl _ _⟩
  have e1 : makeErr l i n = 0 := by unfold makeErr; rw [he]; simp [hn]
  have hm := hs _ (List.mem_of_getElem? hx)
  simp only at hm
  have e2 : makeLst l i n = l.set i.toNat (G.addc e n, o) := by unfold makeLst; rw [if_neg hn, he, addc_eq (by omega) (by omega) (by omega) (by omega)]
  rw [e1, e2]
  have := topMake_yes g p l i.toNat n e o w ht hx (by omega) (by omega)
  rw [Int.toNat_of_nonneg h0] at this
  exact this
theorem topTake_any (g p : Nat) (l : List (Int × Int)) (i n : Int) (w : World) (ht : TopicAt w g p l) :
  Calls Tryz.prog 20 #[.pointer (some ⟨g, 0, none⟩), .int .i64 i, .int .i64 n] w fun en w' => en = .returned (.int .i64 (takeErr l i n)) ∧ TopicAt w' g p (takeLst l i n) ∧ G.Chg (· = p) w w' := by
 cases he : entry l i with
 | none =>
  have e1 : takeErr l i n = 4 := by unfold takeErr; rw [he]
  have e2 : takeLst l i n = l := by unfold takeLst; rw [he]
  rw [e1, e2]
  exact (topTake_none g p l i n w ht (entry_none he)).mono fun _ _ ⟨a, b⟩ => ⟨a, b ▸ ht, b ▸ G.Chg.refl _ _⟩
 | some x =>
  obtain ⟨e, o⟩ := x
  obtain ⟨h0, hx⟩ := entry_some he
  by_cases hn : n < o ∨ e < n
  ·have e1 : takeErr l i n = 1 := by unfold takeErr; rw [he]; simp [hn]
   have e2 : takeLst l i n = l := by unfold takeLst; rw [he]; simp [hn]
   rw [e1, e2]
   have := topTake_arg g p l i.toNat n e o w ht hx hn
   rw [Int.toNat_of_nonneg h0] at this
   exact this.mono fun _ _ ⟨a, b⟩ => ⟨a, b ▸ ht, b ▸ G.Chg.refl _ _⟩
  have e1 : takeErr l i n = 0 := by unfold takeErr; rw [he]; simp [hn]
  have e2 : takeLst l i n = l.set i.toNat (e, n) := by unfold takeLst; rw [he]; simp [hn]
  rw [e1, e2]
  have := topTake_yes g p l i.toNat n e o w ht hx (by omega) (by omega)
  rw [Int.toNat_of_nonneg h0] at this
  exact this
end Go.Proofs.YtidonhndeohdlaaGreat
