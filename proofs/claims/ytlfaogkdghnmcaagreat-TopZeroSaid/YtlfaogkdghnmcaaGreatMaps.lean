/- Maps of the call's own from numbers to numbers, and to bools, as functions. No program in sight. -/
import Derived.Test.YtlfaogkdghnmcaaGreatZBase
import Derived.Maps.OwnOps
import Derived.Maps.Views
set_option linter.unusedVariables false
set_option linter.unusedSimpArgs false
namespace Tide
open Go Go.RowKit Go.Maps
/-- block b is a map[int]int of n entries at the most that answers as f -/
def CntMap (P : Program) (K E : TypeId) (w : World) (b n : Nat) (f : Int → Int) : Prop :=
  ∃ D : DataW Unit, w.ownsMap P K (plainElem P E) b n D ∧ IsMap D ∧ ∀ k : Int, D.atKey (.int .i64 k) (.lit (.int .i64 0)) = .lit (.int .i64 (f k))
/-- block b is a map[int]bool -/
def SetMap (P : Program) (K E : TypeId) (w : World) (b n : Nat) (f : Int → Bool) : Prop :=
  ∃ D : DataW Unit, w.ownsMap P K (plainElem P E) b n D ∧ IsMap D ∧ ∀ k : Int, D.atKey (.int .i64 k) (.lit (.bool false)) = .lit (.bool (f k))
theorem owns_chg {H : Type} {P : Program} {K : TypeId} {R : Value → Option (DataW H × List MemPlace)} {w w' : World} {b n : Nat} {D : DataW H} {S : Nat → Prop} (h : w.ownsMap P K R b n D) (hc : Chg S w w') (hs : ¬ S b) : w'.ownsMap P K R b n D := by
  have hlt := h.lt
  obtain ⟨es, clock, hb, F, hn, hD⟩ := h
  exact ⟨es, clock, (hc.block b hlt hs).trans hb, F, hn, hD⟩
section
variable {P : Program} {K E : TypeId} {w w' : World} {b n : Nat} {f : Int → Int} {g : Int → Bool} {S : Nat → Prop}
theorem CntMap.lt (h : CntMap P K E w b n f) : b < w.heap.size := by obtain ⟨D, h1, _⟩ := h; exact h1.lt
theorem SetMap.lt (h : SetMap P K E w b n g) : b < w.heap.size := by obtain ⟨D, h1, _⟩ := h; exact h1.lt
theorem CntMap.made (P : Program) (K E : TypeId) (w : World) : CntMap P K E (w.alloc (.map #[] 0)) w.heap.size 0 (fun _ => 0) := ⟨_, World.ownsMap_made _ _ _ _, isMap_empty, fun k => rfl⟩
theorem SetMap.made (P : Program) (K E : TypeId) (w : World) : SetMap P K E (w.alloc (.map #[] 0)) w.heap.size 0 (fun _ => false) := ⟨_, World.ownsMap_made _ _ _ _, isMap_empty, fun k => rfl⟩
theorem CntMap.chg (h : CntMap P K E w b n f) (hc : Chg S w w') (hs : ¬ S b) : CntMap P K E w' b n f := by obtain ⟨D, h1, h2⟩ := h; exact ⟨D, owns_chg h1 hc hs, h2⟩
theorem SetMap.chg (h : SetMap P K E w b n g) (hc : Chg S w w') (hs : ¬ S b) : SetMap P K E w' b n g := by obtain ⟨D, h1, h2⟩ := h; exact ⟨D, owns_chg h1 hc hs, h2⟩
theorem CntMap.mono (h : CntMap P K E w b n f) {n' : Nat} (hn : n ≤ n') : CntMap P K E w b n' f := by obtain ⟨D, h1, h2⟩ := h; exact ⟨D, h1.mono hn, h2⟩
theorem SetMap.mono (h : SetMap P K E w b n g) {n' : Nat} (hn : n ≤ n') : SetMap P K E w b n' g := by obtain ⟨D, h1, h2⟩ := h; exact ⟨D, h1.mono hn, h2⟩
theorem CntMap.as (h : CntMap P K E w b n f) {f' : Int → Int} (e : f = f') : CntMap P K E w b n f' := e ▸ h
theorem SetMap.as (h : SetMap P K E w b n g) {g' : Int → Bool} (e : g = g') : SetMap P K E w b n g' := e ▸ h
end
theorem plainElem_bool_inv {H : Type} {P : Program} {e : TypeId} (he : P.underlying e = some .bool) {v : Value} {z : DataW H × List MemPlace} (h : plainElem P e v = some z) : ∃ a, v = .bool a ∧ z = (.lit (.bool a), []) := by
  cases v <;> simp [plainElem, he] at h
  exact ⟨_, rfl, h.symm⟩
section
variable {P : Program} {K E : TypeId} {w w' : World} {b n : Nat} {f : Int → Int} {g : Int → Bool}
theorem wpList_look_cnt {ops : Array Oper} {rest : List Oper} {o : Oper} {a : Act} {Q : Exit → Act → World → Prop} (hg : o.guard = none) (m x : Operand) (t : TypeId) (hop : o.op = Op.lookup t m x false) (Kl : Keyed P K) (ht : P.underlying t = some (.map K E)) (hk : P.underlying K = some (.int .i64)) (he : P.underlying E = some (.int .i64))
    (hz : (zeroValue E).run P w = .ok (.int .i64 0) w) (h : CntMap P K E w b n f) (hm : a.eval m = .map (some b)) (k : Int) (hx : a.eval x = .int .i64 k) (hw : (Lit.int .i64 k).wf = true)
    (hK : wpList P ops Q rest (a.put o.dst (.int .i64 (f k))) w) : wpList P ops Q (o :: rest) a w := by
  obtain ⟨D, h1, h2, h3⟩ := h
  refine wpList_lookup_own_int w hg m x t hop K E .i64 Kl ht he hz b n D hm h1 _ _ hx (keyOf_int_mk hk hw) fun c hat hwc => ?_
  rw [h3] at hat
  injection hat with e; injection e with _ e
  rw [← e]; exact hK
theorem wpList_store_cnt {ops : Array Oper} {rest : List Oper} {o : Oper} {a : Act} {Q : Exit → Act → World → Prop} (hg : o.guard = none) (m x v : Operand) (t : TypeId) (hop : o.op = Op.mapUpdate t m x v) (Kl : Keyed P K) (ht : P.underlying t = some (.map K E)) (hk : P.underlying K = some (.int .i64)) (he : P.underlying E = some (.int .i64))
    (h : CntMap P K E w b n f) (hn : n < maxLen) (hm : a.eval m = .map (some b)) (k c : Int) (hx : a.eval x = .int .i64 k) (hv : a.eval v = .int .i64 c) (hw : (Lit.int .i64 k).wf = true) (hwc : (Lit.int .i64 c).wf = true)
    (hK : ∀ w', CntMap P K E w' b (n + 1) (fun j => if j = k then c else f j) → Chg (fun g => g = b) w w' → wpList P ops Q rest (a.put o.dst undef) w') : wpList P ops Q (o :: rest) a w := by
  obtain ⟨D, h1, h2, h3⟩ := h
  refine wpList_mapUpdate_own w hg m x v t hop K E Kl ht _ b n D hm h1 hn _ _ _ hx hv (keyOf_int_mk hk hw) _ [] (plainElem_int he hwc) fun w1 r1 r2 => ?_
  refine hK w1 ⟨_, r1, h2.put _ _, fun j => ?_⟩ ((Chg.refl _ w).grown r2 (fun g hg => .inl (by cases hg; rfl)))
  show _ = DataW.lit (.int .i64 (if j = k then c else f j))
  by_cases e : j = k
  · subst e; rw [if_pos rfl]; exact atKey_put_same h2 (by trivial) _ _
  · rw [if_neg e, atKey_put_other (fun c => e (by injection c))]; exact h3 j
theorem wpList_look_set {ops : Array Oper} {rest : List Oper} {o : Oper} {a : Act} {Q : Exit → Act → World → Prop} (hg : o.guard = none) (m x : Operand) (t : TypeId) (hop : o.op = Op.lookup t m x false) (Kl : Keyed P K) (ht : P.underlying t = some (.map K E)) (hk : P.underlying K = some (.int .i64)) (he : P.underlying E = some .bool)
    (hz : (zeroValue E).run P w = .ok (.bool false) w) (h : SetMap P K E w b n g) (hm : a.eval m = .map (some b)) (k : Int) (hx : a.eval x = .int .i64 k) (hw : (Lit.int .i64 k).wf = true)
    (hK : wpList P ops Q rest (a.put o.dst (.bool (g k))) w) : wpList P ops Q (o :: rest) a w := by
  obtain ⟨D, h1, h2, h3⟩ := h
  refine wpList_plain hg fun K' hK' => ?_
  obtain ⟨v, ps, hrun, hv⟩ := h1.lookup Kl ht hz (plainElem_bool he false) (keyOf_int_mk hk hw)
  obtain ⟨c, rfl, hc⟩ := plainElem_bool_inv he hv
  simp only [Prod.mk.injEq] at hc
  have hat := hc.1
  rw [h3] at hat
  injection hat with e; injection e with e
  unfold Oper.wp
  simp [execOp, hop, hm, hx, hrun, Result.andThen]
  exact hK' _ _ (by rw [← e]; exact hK)
theorem wpList_store_set {ops : Array Oper} {rest : List Oper} {o : Oper} {a : Act} {Q : Exit → Act → World → Prop} (hg : o.guard = none) (m x v : Operand) (t : TypeId) (hop : o.op = Op.mapUpdate t m x v) (Kl : Keyed P K) (ht : P.underlying t = some (.map K E)) (hk : P.underlying K = some (.int .i64)) (he : P.underlying E = some .bool)
    (h : SetMap P K E w b n g) (hn : n < maxLen) (hm : a.eval m = .map (some b)) (k : Int) (c : Bool) (hx : a.eval x = .int .i64 k) (hv : a.eval v = .bool c) (hw : (Lit.int .i64 k).wf = true)
    (hK : ∀ w', SetMap P K E w' b (n + 1) (fun j => if j = k then c else g j) → Chg (fun g => g = b) w w' → wpList P ops Q rest (a.put o.dst undef) w') : wpList P ops Q (o :: rest) a w := by
  obtain ⟨D, h1, h2, h3⟩ := h
  refine wpList_mapUpdate_own w hg m x v t hop K E Kl ht _ b n D hm h1 hn _ _ _ hx hv (keyOf_int_mk hk hw) _ [] (plainElem_bool he c) fun w1 r1 r2 => ?_
  refine hK w1 ⟨_, r1, h2.put _ _, fun j => ?_⟩ ((Chg.refl _ w).grown r2 (fun g hg => .inl (by cases hg; rfl)))
  show _ = DataW.lit (.bool (if j = k then c else g j))
  by_cases e : j = k
  · subst e; rw [if_pos rfl]; exact atKey_put_same h2 (by trivial) _ _
  · rw [if_neg e, atKey_put_other (fun c => e (by injection c))]; exact h3 j
end
end Tide
