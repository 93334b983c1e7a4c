/- Maps from numbers to numbers whose keys are known; sums over keys. No program in sight. -/
import Derived.Test.YtlfaogkdghnmcaaGreatMapsB
import Derived.Test.YtlfaogkdghnmcaaGreatWldL
set_option linter.unusedVariables false
set_option linter.unusedSimpArgs false
namespace Tide
open Go Go.RowKit Go.Maps
/-- a CntMap with just the keys ks -/
def KeyMap (P : Program) (K E : TypeId) (w : World) (b n : Nat) (ks : List Int) (f : Int → Int) : Prop :=
  ∃ D : DataW Unit, w.ownsMap P K (plainElem P E) b n D ∧ IsMap D ∧ (∀ k : Int, D.atKey (.int .i64 k) (.lit (.int .i64 0)) = .lit (.int .i64 (f k))) ∧ ∀ k : Int, Maps.has D (.int .i64 k) = decide (k ∈ ks)
section
variable {P : Program} {K E : TypeId} {w w' : World} {b n : Nat} {ks : List Int} {f : Int → Int} {S : Nat → Prop}
theorem KeyMap.cnt (h : KeyMap P K E w b n ks f) : CntMap P K E w b n f := by obtain ⟨D, h1, h2, h3, _⟩ := h; exact ⟨D, h1, h2, h3⟩
theorem KeyMap.lt (h : KeyMap P K E w b n ks f) : b < w.heap.size := h.cnt.lt
theorem KeyMap.made (P : Program) (K E : TypeId) (w : World) : KeyMap P K E (w.alloc (.map #[] 0)) w.heap.size 0 [] (fun _ => 0) := ⟨_, World.ownsMap_made _ _ _ _, isMap_empty, fun k => rfl, fun k => rfl⟩
theorem KeyMap.chg (h : KeyMap P K E w b n ks f) (hc : Chg S w w') (hs : ¬ S b) : KeyMap P K E w' b n ks f := by obtain ⟨D, h1, h2⟩ := h; exact ⟨D, owns_chg h1 hc hs, h2⟩
theorem KeyMap.mono (h : KeyMap P K E w b n ks f) {n' : Nat} (hn : n ≤ n') : KeyMap P K E w b n' ks f := by obtain ⟨D, h1, h2⟩ := h; exact ⟨D, h1.mono hn, h2⟩
theorem KeyMap.lay {t : TypeId} (h : KeyMap P K E w b n ks f) (Kl : Keyed P K) (ht : P.underlying t = some (.map K E)) (hk : P.underlying K = some (.int .i64)) (he : P.underlying E = some (.int .i64)) (hn : n < maxLen) (k c : Int) (hw : (Lit.int .i64 k).wf = true) (hwc : (Lit.int .i64 c).wf = true) :
    ∃ w', (Instr.mapUpdate t (.map (some b)) (.int .i64 k) (.int .i64 c)).run P w = .ok () w' ∧ KeyMap P K E w' b (n + 1) (if k ∈ ks then ks else k :: ks) (fun j => if j = k then c else f j) ∧ Chg (fun g => g = b) w w' := by
  obtain ⟨D, h1, h2, h3, h4⟩ := h
  obtain ⟨w1, hrun, r1, r2⟩ := h1.update Kl ht hn (keyOf_int_mk hk hw) (plainElem_int he hwc)
  refine ⟨w1, hrun, ⟨_, r1, h2.put _ _, fun j => ?_, fun j => ?_⟩, (Chg.refl _ w).grown r2 (fun g hg => .inl (by cases hg; rfl))⟩
  · show _ = DataW.lit (.int .i64 (if j = k then c else f j))
    by_cases e : j = k
    · subst e; rw [if_pos rfl]; exact atKey_put_same h2 (by trivial) _ _
    · rw [if_neg e, atKey_put_other (fun c => e (by injection c))]; exact h3 j
  · by_cases e : j = k
    · subst e
      rw [has_put_same h2 (by trivial) _]
      by_cases c : j ∈ ks
      · rw [if_pos c]; simp [c]
      · rw [if_neg c]; simp
    · rw [has_put_other (fun c => e (by injection c)), h4 j]
      by_cases c : k ∈ ks
      · rw [if_pos c]
      · rw [if_neg c]; simp [e]
end
theorem sum_same {ks : List Int} {f g : Int → Int} (h : ∀ k ∈ ks, f k = g k) : (ks.map f).sum = (ks.map g).sum := by rw [List.map_congr_left h]
theorem sum_nn {f : Int → Int} (h : ∀ k, 0 ≤ f k) : ∀ ks : List Int, 0 ≤ (ks.map f).sum
  | [] => by simp
  | a :: l => by rw [List.map_cons, List.sum_cons]; have := sum_nn h l; have := h a; omega
theorem sum_bump {p : Int} {f : Int → Int} : ∀ {ks : List Int}, ks.Nodup → p ∈ ks → (ks.map (fun j => if j = p then f p + 1 else f j)).sum = (ks.map f).sum + 1
  | [], _, hp => by cases hp
  | a :: l, hn, hp => by
    obtain ⟨h1, h2⟩ := List.nodup_cons.1 hn
    rw [List.map_cons, List.sum_cons, List.map_cons, List.sum_cons]
    by_cases e : a = p
    · subst e
      have hs : (l.map (fun j => if j = a then f a + 1 else f j)).sum = (l.map f).sum := sum_same fun k hk => if_neg (fun c : k = a => h1 (c ▸ hk))
      rw [if_pos rfl, hs]; omega
    · rw [if_neg e, sum_bump h2 (by rcases List.mem_cons.1 hp with c | c; exact absurd c.symm e; exact c)]; omega
theorem sum_less {x : Int} {f : Int → Int} {p : Int → Bool} (hx : p x = true) : ∀ {ks : List Int}, ks.Nodup → x ∈ ks → ((ks.filter (fun k => p k && !(k == x))).map f).sum = ((ks.filter p).map f).sum - f x
  | [], _, hp => by cases hp
  | a :: l, hn, hp => by
    obtain ⟨h1, h2⟩ := List.nodup_cons.1 hn
    by_cases e : a = x
    · subst e
      have hfl : l.filter (fun k => p k && !(k == a)) = l.filter p := List.filter_congr fun k hk => by
        have e1 : (k == a) = false := by simp; intro c; exact h1 (c ▸ hk)
        rw [e1]; simp
      rw [List.filter_cons_of_neg (by simp), List.filter_cons_of_pos hx, List.map_cons, List.sum_cons, hfl]
      omega
    · have ih := sum_less (f := f) hx h2 (by rcases List.mem_cons.1 hp with c | c; exact absurd c.symm e; exact c)
      have e' : (a == x) = false := by simp [e]
      by_cases c : p a = true
      · rw [List.filter_cons_of_pos (by simp [c, e']), List.filter_cons_of_pos c, List.map_cons, List.sum_cons, List.map_cons, List.sum_cons, ih]; omega
      · rw [List.filter_cons_of_neg (by simp [c]), List.filter_cons_of_neg c, ih]
structure Cnt (ks : List Int) (f : Int → Int) (s : Int) : Prop where
  nodup : ks.Nodup
  zero : ∀ k, k ∉ ks → f k = 0
  sum : (ks.map f).sum = s
theorem Cnt.new : Cnt [] (fun _ => 0) 0 := ⟨List.nodup_nil, fun _ _ => rfl, rfl⟩
theorem Cnt.put {ks : List Int} {f : Int → Int} {s : Int} (h : Cnt ks f s) (p : Int) : Cnt (if p ∈ ks then ks else p :: ks) (fun j => if j = p then f p + 1 else f j) (s + 1) := by
  by_cases c : p ∈ ks
  · rw [if_pos c]
    exact ⟨h.nodup, fun k hk => by rw [if_neg (fun e : k = p => hk (e ▸ c))]; exact h.zero k hk, by rw [sum_bump h.nodup c, h.sum]⟩
  · rw [if_neg c]
    have hs : (ks.map (fun j => if j = p then f p + 1 else f j)).sum = (ks.map f).sum := sum_same fun k hk => if_neg (fun e : k = p => c (e ▸ hk))
    exact ⟨List.nodup_cons.2 ⟨c, h.nodup⟩, fun k hk => by rw [if_neg (fun e => hk (by rw [e]; exact List.mem_cons_self))]; exact h.zero k (fun m => hk (List.mem_cons_of_mem _ m)), by
      rw [List.map_cons, List.sum_cons, if_pos rfl, hs, h.zero p c, h.sum]; omega⟩
theorem sumL_snoc {f : List Pod} {k : Nat} {r : Pod} (h : f[k]? = some r) : sumL (f.take (k + 1)) = sumL (f.take k) + r.load := by
  rw [take_of_get h]; unfold sumL; simp
theorem sumL_bd : ∀ {f : List Pod}, (∀ p ∈ f, 0 ≤ p.load ∧ p.load ≤ 100) → 0 ≤ sumL f ∧ sumL f ≤ 100 * f.length
  | [], _ => by simp [sumL]
  | a :: l, h => by
    have ih := sumL_bd (f := l) (fun p hp => h p (List.mem_cons_of_mem _ hp))
    have ha := h a List.mem_cons_self
    have e : sumL (a :: l) = a.load + sumL l := by simp [sumL]
    rw [e, List.length_cons]; omega
end Tide
namespace Go.Proofs.YtlfaogkdghnmcaaGreat
open Go.RowKit
theorem runs_snoc {b : List Tide.Req} {i : Nat} {r : Tide.Req} (hr : b[i]? = some r) (h2 : r.fate = 2) : runsAt (b.take (i + 1)) = (fun j => if j = r.pod then runsAt (b.take i) r.pod + 1 else runsAt (b.take i) j) ∧ runN (b.take (i + 1)) = runN (b.take i) + 1 := by
  rw [Tide.take_of_get hr]
  refine ⟨?_, by unfold runN; rw [List.countP_append, List.countP_singleton]; simp [h2]⟩
  funext j
  unfold runsAt
  rw [List.countP_append, List.countP_singleton]
  by_cases e : j = r.pod
  · subst e; simp [runsP, h2]
  · rw [if_neg e]
    have : (r.pod == j) = false := by simp; exact fun c => e c.symm
    simp [runsP, this]
theorem runs_skip {b : List Tide.Req} {i : Nat} {r : Tide.Req} (hr : b[i]? = some r) (h2 : r.fate ≠ 2) : runsAt (b.take (i + 1)) = runsAt (b.take i) ∧ runN (b.take (i + 1)) = runN (b.take i) := by
  rw [Tide.take_of_get hr]
  have : (r.fate == 2) = false := by simpa using h2
  refine ⟨?_, by unfold runN; rw [List.countP_append, List.countP_singleton]; simp [this]⟩
  funext j
  unfold runsAt
  rw [List.countP_append, List.countP_singleton]
  simp [runsP, this]
theorem runsAt_bd (b : List Tide.Req) (j : Int) : 0 ≤ runsAt b j ∧ runsAt b j ≤ b.length := by
  unfold runsAt
  have := List.countP_le_length (p := runsP j) (l := b)
  omega
theorem runN_bd (b : List Tide.Req) : 0 ≤ runN b ∧ runN b ≤ b.length := by
  unfold runN
  have := List.countP_le_length (p := fun r : Tide.Req => r.fate == 2) (l := b)
  omega
end Go.Proofs.YtlfaogkdghnmcaaGreat
