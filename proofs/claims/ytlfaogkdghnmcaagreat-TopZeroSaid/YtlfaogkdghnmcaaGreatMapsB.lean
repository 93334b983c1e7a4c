/- Maps of the call's own, further: a set counted exactly; deleting, filling a literal, len, a range that counts. No program in sight. -/
import Derived.Test.YtlfaogkdghnmcaaGreatMaps
import Derived.Maps.OwnSet
import Derived.Maps.RangeWalk
set_option linter.unusedVariables false
set_option linter.unusedSimpArgs false
namespace Tide
open Go Go.RowKit Go.Maps
/-- block b is a map[int]bool of c entries that are all true: those of f -/
def SetN (P : Program) (K E : TypeId) (w : World) (b n c : Nat) (f : Int → Bool) : Prop :=
  ∃ D : DataW Unit, w.ownsMap P K (plainElem P E) b n D ∧ Tidy D ∧ Maps.size D = c ∧ (∀ k : Int, Maps.has D (.int .i64 k) = f k) ∧ ∀ k : Int, D.atKey (.int .i64 k) (.lit (.bool false)) = .lit (.bool (f k))
section
variable {P : Program} {K E : TypeId} {w w' : World} {b n c : Nat} {f : Int → Int} {g : Int → Bool} {S : Nat → Prop}
theorem SetN.set (h : SetN P K E w b n c g) : SetMap P K E w b n g := by obtain ⟨D, h1, h2, _, _, h5⟩ := h; exact ⟨D, h1, h2.isMap, h5⟩
theorem SetN.lt (h : SetN P K E w b n c g) : b < w.heap.size := h.set.lt
theorem SetN.made (P : Program) (K E : TypeId) (w : World) : SetN P K E (w.alloc (.map #[] 0)) w.heap.size 0 0 (fun _ => false) := ⟨_, World.ownsMap_made _ _ _ _, tidy_empty, rfl, fun k => rfl, fun k => rfl⟩
theorem SetN.chg (h : SetN P K E w b n c g) (hc : Chg S w w') (hs : ¬ S b) : SetN P K E w' b n c g := by obtain ⟨D, h1, h2⟩ := h; exact ⟨D, owns_chg h1 hc hs, h2⟩
theorem turned_chg (h : w.mapTurned w' b) : Chg (fun g => g = b) w w' := by
  have hg := h.grown
  exact (Chg.refl _ w).grown hg (fun g hg => .inl (by cases hg; rfl))
end
section
variable {P : Program} {K E : TypeId} {w w' : World} {b n c : Nat} {f : Int → Int} {g : Int → Bool}
theorem CntMap.look {t : TypeId} (h : CntMap P K E w b n f) (Kl : Keyed P K) (ht : P.underlying t = some (.map K E)) (hk : P.underlying K = some (.int .i64)) (he : P.underlying E = some (.int .i64)) (hz : (zeroValue E).run P w = .ok (.int .i64 0) w) (k : Int) (hw : (Lit.int .i64 k).wf = true) :
    (Instr.lookup t (.map (some b)) (.int .i64 k) false).run P w = .ok (.int .i64 (f k)) w := by
  obtain ⟨D, h1, h2, h3⟩ := h
  obtain ⟨c, hrun, hat, _⟩ := h1.lookup_int Kl ht he hz (keyOf_int_mk hk hw)
  rw [h3] at hat
  injection hat with e; injection e with _ e
  rw [hrun, e]
theorem SetN.look {t : TypeId} (h : SetN P K E w b n c g) (Kl : Keyed P K) (ht : P.underlying t = some (.map K E)) (hk : P.underlying K = some (.int .i64)) (he : P.underlying E = some .bool) (hz : (zeroValue E).run P w = .ok (.bool false) w) (k : Int) (hw : (Lit.int .i64 k).wf = true) :
    (Instr.lookup t (.map (some b)) (.int .i64 k) false).run P w = .ok (.bool (g k)) w := by
  obtain ⟨D, h1, _, _, _, h3⟩ := h
  obtain ⟨v, ps, hrun, hv⟩ := h1.lookup Kl ht hz (plainElem_bool he false) (keyOf_int_mk hk hw)
  obtain ⟨c, rfl, hc⟩ := plainElem_bool_inv he hv
  simp only [Prod.mk.injEq] at hc
  have hat := hc.1
  rw [h3] at hat
  injection hat with e; injection e with e
  rw [hrun, e]
theorem SetN.len {t : TypeId} (h : SetN P K E w b n c g) (ht : P.underlying t = some (.map K E)) (ty : TypeId) : (Builtin.len_ #[t] ty #[.map (some b)]).run P w = .ok (.int .i64 c) w := by
  obtain ⟨D, h1, _, h3, _⟩ := h
  rw [h1.len ht ty, h3]
/-- one more is marked -/
theorem SetN.mark {t : TypeId} (h : SetN P K E w b n c g) (Kl : Keyed P K) (ht : P.underlying t = some (.map K E)) (hk : P.underlying K = some (.int .i64)) (he : P.underlying E = some .bool) (hn : n < maxLen) (k : Int) (hw : (Lit.int .i64 k).wf = true) (hnew : g k = false) :
    ∃ w', (Instr.mapUpdate t (.map (some b)) (.int .i64 k) (.bool true)).run P w = .ok () w' ∧ SetN P K E w' b (n + 1) (c + 1) (fun j => if j = k then true else g j) ∧ Chg (fun g => g = b) w w' := by
  obtain ⟨D, h1, h2, h3, h4, h5⟩ := h
  obtain ⟨w1, hrun, r1, r2⟩ := h1.update Kl ht hn (keyOf_int_mk hk hw) (plainElem_bool he true)
  refine ⟨w1, hrun, ⟨_, r1, h2.put (k := .int .i64 k) (by trivial) _, ?_, fun j => ?_, fun j => ?_⟩, (Chg.refl _ w).grown r2 (fun g hg => .inl (by cases hg; rfl))⟩
  · rw [Maps.size_put h2, h4, hnew, h3]; rfl
  · show _ = if j = k then true else g j
    by_cases e : j = k
    · subst e; rw [if_pos rfl]; exact has_put_same h2.isMap (by trivial) _
    · rw [if_neg e, has_put_other (fun c => e (by injection c))]; exact h4 j
  · show _ = DataW.lit (.bool (if j = k then true else g j))
    by_cases e : j = k
    · subst e; rw [if_pos rfl]; exact atKey_put_same h2.isMap (by trivial) _ _
    · rw [if_neg e, atKey_put_other (fun c => e (by injection c))]; exact h5 j
theorem CntMap.drop {t : TypeId} (h : CntMap P K E w b n f) (Kl : Keyed P K) (ht : P.underlying t = some (.map K E)) (hk : P.underlying K = some (.int .i64)) (k : Int) (hw : (Lit.int .i64 k).wf = true) (ty : TypeId) :
    ∃ w', (Builtin.delete_ #[t, K] ty #[.map (some b), .int .i64 k]).run P w = .ok (.tuple #[]) w' ∧ CntMap P K E w' b n (fun j => if j = k then 0 else f j) ∧ Chg (fun g => g = b) w w' := by
  obtain ⟨D, h1, h2, h3⟩ := h
  obtain ⟨w1, hrun, r1, r2⟩ := h1.drop Kl ht (keyOf_int_mk hk hw) ty
  refine ⟨w1, hrun, ⟨_, r1, h2.del _, fun j => ?_⟩, turned_chg r2⟩
  show _ = DataW.lit (.int .i64 (if j = k then 0 else f j))
  by_cases e : j = k
  · subst e; rw [if_pos rfl]; exact atKey_del_same _
  · rw [if_neg e, atKey_del_other (fun c => e (by injection c))]; exact h3 j
/-- an entry of a map's literal -/
theorem CntMap.lay {t : TypeId} (h : CntMap P K E w b n f) (Kl : Keyed P K) (ht : P.underlying t = some (.map K E)) (hk : P.underlying K = some (.int .i64)) (he : P.underlying E = some (.int .i64)) (hn : n < maxLen) (k c : Int) (hw : (Lit.int .i64 k).wf = true) (hwc : (Lit.int .i64 c).wf = true) :
    ∃ w', (Instr.mapUpdate t (.map (some b)) (.int .i64 k) (.int .i64 c)).run P w = .ok () w' ∧ CntMap P K E w' b (n + 1) (fun j => if j = k then c else f j) ∧ Chg (fun g => g = b) w w' := by
  obtain ⟨D, h1, h2, h3⟩ := h
  obtain ⟨w1, hrun, r1, r2⟩ := h1.update Kl ht hn (keyOf_int_mk hk hw) (plainElem_int he hwc)
  refine ⟨w1, hrun, ⟨_, r1, h2.put _ _, fun j => ?_⟩, (Chg.refl _ w).grown r2 (fun g hg => .inl (by cases hg; rfl))⟩
  show _ = DataW.lit (.int .i64 (if j = k then c else f j))
  by_cases e : j = k
  · subst e; rw [if_pos rfl]; exact atKey_put_same h2 (by trivial) _ _
  · rw [if_neg e, atKey_put_other (fun c => e (by injection c))]; exact h3 j
end
end Tide
