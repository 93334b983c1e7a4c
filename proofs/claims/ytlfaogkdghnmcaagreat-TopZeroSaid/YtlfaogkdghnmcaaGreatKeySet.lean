/- A map[int]bool as a list of its keys; the triggers that TopZero holds for failing. -/
import Derived.Test.YtlfaogkdghnmcaaGreatMapsB
import Derived.Test.YtlfaogkdghnmcaaGreatWldP
set_option linter.unusedVariables false
set_option linter.unusedSimpArgs false
namespace Tide
open Go Go.RowKit Go.Maps
/-- block b is a map[int]bool with just the keys ks -/
def KeySet (P : Program) (K E : TypeId) (w : World) (b n : Nat) (ks : List Int) : Prop :=
  ∃ D : DataW Unit, w.ownsMap P K (plainElem P E) b n D ∧ Tidy D ∧ Maps.size D = ks.length ∧ (∀ k : Int, Maps.has D (.int .i64 k) = decide (k ∈ ks)) ∧ ks.Nodup
section
variable {P : Program} {K E : TypeId} {w w' : World} {b n : Nat} {ks : List Int} {S : Nat → Prop}
theorem KeySet.made (P : Program) (K E : TypeId) (w : World) : KeySet P K E (w.alloc (.map #[] 0)) w.heap.size 0 [] := ⟨_, World.ownsMap_made _ _ _ _, tidy_empty, rfl, fun k => rfl, List.nodup_nil⟩
theorem KeySet.lt (h : KeySet P K E w b n ks) : b < w.heap.size := by obtain ⟨D, h1, _⟩ := h; exact h1.lt
theorem KeySet.chg (h : KeySet P K E w b n ks) (hc : Chg S w w') (hs : ¬ S b) : KeySet P K E w' b n ks := by obtain ⟨D, h1, h2⟩ := h; exact ⟨D, owns_chg h1 hc hs, h2⟩
theorem KeySet.mono (h : KeySet P K E w b n ks) {n' : Nat} (hn : n ≤ n') : KeySet P K E w b n' ks := by obtain ⟨D, h1, h2⟩ := h; exact ⟨D, h1.mono hn, h2⟩
theorem KeySet.len {t : TypeId} (h : KeySet P K E w b n ks) (ht : P.underlying t = some (.map K E)) (ty : TypeId) : (Builtin.len_ #[t] ty #[.map (some b)]).run P w = .ok (.int .i64 ks.length) w := by
  obtain ⟨D, h1, _, h3, _⟩ := h
  rw [h1.len ht ty, h3]
theorem KeySet.mark {t : TypeId} (h : KeySet P K E w b n ks) (Kl : Keyed P K) (ht : P.underlying t = some (.map K E)) (hk : P.underlying K = some (.int .i64)) (he : P.underlying E = some .bool) (hn : n < maxLen) (k : Int) (hw : (Lit.int .i64 k).wf = true) :
    ∃ w', (Instr.mapUpdate t (.map (some b)) (.int .i64 k) (.bool true)).run P w = .ok () w' ∧ KeySet P K E w' b (n + 1) (if k ∈ ks then ks else k :: ks) ∧ Chg (fun g => g = b) w w' := by
  obtain ⟨D, h1, h2, h3, h4, h5⟩ := h
  obtain ⟨w1, hrun, r1, r2⟩ := h1.update Kl ht hn (keyOf_int_mk hk hw) (plainElem_bool he true)
  refine ⟨w1, hrun, ⟨_, r1, h2.put (k := .int .i64 k) (by trivial) _, ?_, fun j => ?_, ?_⟩, (Chg.refl _ w).grown r2 (fun g hg => .inl (by cases hg; rfl))⟩
  · rw [Maps.size_put h2, h4, h3]
    by_cases c : k ∈ ks
    · rw [if_pos c, if_pos (by simpa using c)]
    · rw [if_neg c, if_neg (by simpa using c)]; rfl
  · by_cases e : j = k
    · subst e
      rw [has_put_same h2.isMap (by trivial) _]
      by_cases c : j ∈ ks
      · rw [if_pos c]; simp [c]
      · rw [if_neg c]; simp
    · rw [has_put_other (fun c => e (by injection c)), h4 j]
      by_cases c : k ∈ ks
      · rw [if_pos c]
      · rw [if_neg c]; simp [e]
  · by_cases c : k ∈ ks
    · rw [if_pos c]; exact h5
    · rw [if_neg c]; exact List.nodup_cons.2 ⟨c, h5⟩
theorem KeySet.drop {t : TypeId} (h : KeySet P K E w b n ks) (Kl : Keyed P K) (ht : P.underlying t = some (.map K E)) (hk : P.underlying K = some (.int .i64)) (k : Int) (hw : (Lit.int .i64 k).wf = true) (ty : TypeId) :
    ∃ w', (Builtin.delete_ #[t, K] ty #[.map (some b), .int .i64 k]).run P w = .ok (.tuple #[]) w' ∧ KeySet P K E w' b n (ks.erase k) ∧ Chg (fun g => g = b) w w' := by
  obtain ⟨D, h1, h2, h3, h4, h5⟩ := h
  obtain ⟨w1, hrun, r1, r2⟩ := h1.drop Kl ht (keyOf_int_mk hk hw) ty
  refine ⟨w1, hrun, ⟨_, r1, h2.del _, ?_, fun j => ?_, h5.erase k⟩, turned_chg r2⟩
  · have := Maps.size_del (k := .int .i64 k) h2
    rw [h4, h3] at this
    rw [List.length_erase]
    by_cases c : k ∈ ks
    · rw [if_pos c]; rw [if_pos (by simpa using c)] at this; omega
    · rw [if_neg c]; rw [if_neg (by simpa using c)] at this; omega
  · by_cases e : j = k
    · subst e
      rw [has_del_same]
      have : j ∉ ks.erase j := fun c => (h5.mem_erase_iff.1 c).1 rfl
      simp [this]
    · rw [has_del_other (fun c => e (by injection c)), h4 j]
      have : j ∈ ks.erase k ↔ j ∈ ks := List.mem_erase_of_ne e
      simp [this]
end
end Tide
namespace Go.Proofs.YtlfaogkdghnmcaaGreat
open Go.RowKit
/-- who stands in the set is a trigger that is no span, and fails -/
def Marks (p : Pln) (fs : List Bool) (ks : List Int) : Prop := ∀ k ∈ ks, ∃ (i : Nat) (t : Trg), k = (i : Int) ∧ p.trigs[i]? = some t ∧ t.kind ≠ 3 ∧ fs[i]? = some true
theorem marks_on {p : Pln} {fs : List Bool} {ks : List Int} (h : Marks p fs ks) {a : Nat} {t : Trg} (ha : a < fs.length) (ht : p.trigs[a]? = some t) (h3 : t.kind ≠ 3) : Marks p (fs.set a true) (if (a : Int) ∈ ks then ks else (a : Int) :: ks) := by
  have key : ∀ k ∈ ks, ∃ (i : Nat) (t : Trg), k = (i : Int) ∧ p.trigs[i]? = some t ∧ t.kind ≠ 3 ∧ (fs.set a true)[i]? = some true := fun k hk => by
    obtain ⟨i, u, e1, e2, e3, e4⟩ := h k hk
    refine ⟨i, u, e1, e2, e3, ?_⟩
    by_cases c : a = i
    · subst c; rw [List.getElem?_set_self ha]
    · rw [List.getElem?_set_ne c]; exact e4
  by_cases c : (a : Int) ∈ ks
  · rw [if_pos c]; exact key
  · rw [if_neg c]
    intro k hk
    rcases List.mem_cons.1 hk with e | hk
    · exact ⟨a, t, e, ht, h3, by rw [List.getElem?_set_self ha]⟩
    · exact key k hk
theorem marks_off {p : Pln} {fs : List Bool} {ks : List Int} (h : Marks p fs ks) (hn : ks.Nodup) (a : Nat) (x : Bool) : Marks p (fs.set a x) (ks.erase a) := fun k hk => by
  obtain ⟨h1, h2⟩ := hn.mem_erase_iff.1 hk
  obtain ⟨i, u, e1, e2, e3, e4⟩ := h k h2
  refine ⟨i, u, e1, e2, e3, ?_⟩
  rw [List.getElem?_set_ne (by omega)]; exact e4
theorem marks_span {p : Pln} {fs : List Bool} {ks : List Int} (h : Marks p fs ks) {a : Nat} {t : Trg} (ht : p.trigs[a]? = some t) (h3 : t.kind = 3) (x : Bool) : Marks p (fs.set a x) ks := fun k hk => by
  obtain ⟨i, u, e1, e2, e3, e4⟩ := h k hk
  refine ⟨i, u, e1, e2, e3, ?_⟩
  have : a ≠ i := fun c => by subst c; rw [ht] at e2; cases e2; exact e3 h3
  rw [List.getElem?_set_ne this]; exact e4
theorem tick_fails (m : Wo) : m.tick.fails = m.fails := by show m.late.seen.fails = m.fails; unfold Wo.seen; split <;> rfl
theorem ticks_fails (n : Nat) (m : Wo) : (ticksN n m).fails = m.fails := by
  induction n with
  | zero => rfl
  | succ n ih => show (ticksN n m).tick.fails = _; rw [tick_fails, ih]
theorem do_fails {m : Wo} {k a n : Int} (h : k ≠ 7) : (doW m k a n).fails = m.fails :=
  doW_elim (fun x => x.fails = m.fails) rfl (fun _ _ => ticks_fails _ _) (fun _ => rfl) (fun _ => rfl) (fun _ => rfl) (fun _ => rfl) (fun _ => rfl) (fun e _ => absurd e h) (fun _ => rfl) (fun _ _ => rfl) (fun _ _ => rfl) (fun _ _ => rfl) (fun _ _ => rfl) (fun _ => rfl)
theorem do_fail {m : Wo} {a n : Int} : doE m 7 a n = failE m a n ∧ doW m 7 a n = (if failE m a n = 0 then { m with fails := m.fails.set a.toNat (n == 1) } else m) := ⟨rfl, rfl⟩
/-- one tick -/
theorem do_tick {m : Wo} {j : Nat} (h : m.ok j) : (doW m 1 0 1).ok (j + 1) ∧ ((doW m 1 0 1 = m.tick ∧ m.now < 1099511627776) ∨ doW m 1 0 1 = m) := by
  by_cases c : tickE m 1 = 0
  · have e : doW m 1 0 1 = m.tick := by unfold doW; rw [if_pos rfl, if_pos c]; rfl
    obtain ⟨h1, h2, h3⟩ := tickE_ok c
    have := ok_ticks h 1 (by omega)
    exact ⟨by rw [e]; exact this, .inl ⟨e, by omega⟩⟩
  · have e : doW m 1 0 1 = m := by unfold doW; rw [if_pos rfl, if_neg c]
    exact ⟨by rw [e]; exact h.up (by omega), .inr e⟩
/-- what a tick shows -/
theorem tick_says {m : Wo} {j : Nat} {p : Pln} {ks : List Int} (h : m.ok j) (hb : Bds p m) (hk : Marks p m.fails ks) (hw : 0 < m.target) (hz : (doW m 1 0 1).target = 0) : m.b.any (stillR (m.now + 1)) = false ∧ ks = [] ∧ p.mn ≤ 0 := by
  rcases (do_tick h).2 with ⟨e, hn⟩ | e
  · rw [e] at hz
    obtain ⟨h1, h2, h3⟩ := zero_says h hn hb hw hz
    refine ⟨h1, ?_, h3⟩
    cases ks with
    | nil => rfl
    | cons k ks =>
      obtain ⟨i, t, e1, e2, e3, e4⟩ := hk k List.mem_cons_self
      exact absurd ⟨t, by rw [hb.plan]; exact e2, e3, e4⟩ (h2 i)
  · rw [e] at hz; omega
end Go.Proofs.YtlfaogkdghnmcaaGreat
