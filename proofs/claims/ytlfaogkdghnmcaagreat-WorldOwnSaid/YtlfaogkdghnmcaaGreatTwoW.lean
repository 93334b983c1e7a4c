/- Two worlds in memory, apart from each other. -/
import Derived.Test.YtlfaogkdghnmcaaGreatWldR
set_option linter.unusedVariables false
set_option linter.unusedSimpArgs false
namespace Go.Proofs.YtlfaogkdghnmcaaGreat
open Go.RowKit
def TwoW (R : Nat → Prop) (w : World) (p : Wp) (m : Wo) (p2 : Wp) (m2 : Wo) : Prop := ∃ a a2, WoIn w p a m ∧ WoIn w p2 a2 m2 ∧ (∀ b, a.P b = 0 ∨ a2.P b = 0) ∧ ∀ b, R b → a.P b = 0 ∧ a2.P b = 0 ∧ b < w.heap.size
section
variable {R : Nat → Prop} {w w' : World} {p p2 : Wp} {m m2 : Wo} {C : Nat → Prop}
theorem TwoW.swap (h : TwoW R w p m p2 m2) : TwoW R w p2 m2 p m := by
  obtain ⟨a, a2, h1, h2, h3, h4⟩ := h
  exact ⟨a2, a, h2, h1, fun b => (h3 b).symm, fun b hb => ⟨(h4 b hb).2.1, (h4 b hb).1, (h4 b hb).2.2⟩⟩
theorem WoIn.turn {a : Wg} (h : WoIn w p a m) (hc : Tide.Chg C w w') (hC : ∀ b, C b → a.P b = 0) : WoIn w' p { a with P := paint a.P 0 w w' } m := by
  have hn : ∀ k, k ≠ 0 → ∀ b, a.P b = k → ¬ C b := fun k hk b hb hcb => by have := hC b hcb; omega
  obtain ⟨k1, k2, k3, k4⟩ := h.keep1 0 hc (hn 1 (by omega))
  obtain ⟨k5, k6⟩ := h.keep4a 0 w'
  exact ⟨k1, k2, k3, h.keep2 0 hc (hn 2 (by omega)) (hn 3 (by omega)), h.keep4 0 hc (hn 4 (by omega)), k5, k6, h.keep5 0 hc (hn 5 (by omega)), h.keep6 0 hc (hn 6 (by omega)), h.keep7 0 hc (hn 7 (by omega)), k4, fun b hb => paint_lim h.lim hc.size hb⟩
theorem paint_zero {P : Nat → Nat} (hl : ∀ b, P b ≠ 0 → b < w.heap.size) (b : Nat) : paint P 0 w w' b = P b ∧ (w.heap.size ≤ b → paint P 0 w w' b = 0) := by
  have h0 : w.heap.size ≤ b → P b = 0 := fun h => by
    rcases Nat.eq_zero_or_pos (P b) with c | c
    · exact c
    · have := hl b (by omega); omega
  unfold paint
  split
  · rename_i c; exact ⟨(h0 c.1).symm, fun _ => rfl⟩
  · exact ⟨rfl, h0⟩
/-- a step of the first -/
theorem TwoW.left (h : TwoW R w p m p2 m2) : ∃ R' : Nat → Prop, WoN R' w p m ∧ (∀ b, R b → R' b) ∧ ∀ (w' : World) (m' : Wo), WoC R' w w' p m' → TwoW R w' p m' p2 m2 ∧ Tide.Chg (fun b => ¬ R b) w w' := by
  obtain ⟨a, a2, h1, h2, h3, h4⟩ := h
  refine ⟨fun b => R b ∨ a2.P b ≠ 0, ⟨a, h1, fun b hb => ?_⟩, fun b hb => .inl hb, fun w' m' hc => ?_⟩
  · rcases hb with hb | hb
    · exact ⟨(h4 b hb).1, (h4 b hb).2.2⟩
    · exact ⟨(h3 b).resolve_right hb, h2.lim b hb⟩
  · obtain ⟨⟨a', h1', h5⟩, hch⟩ := hc
    refine ⟨⟨a', { a2 with P := paint a2.P 0 w w' }, h1', h2.turn hch (fun b hb => ?_), fun b => ?_, fun b hb => ?_⟩, hch.mono fun b _ hb hR => hb (.inl hR)⟩
    · rcases Nat.eq_zero_or_pos (a2.P b) with c | c
      · exact c
      · exact absurd (.inr (by omega)) hb
    · show a'.P b = 0 ∨ paint a2.P 0 w w' b = 0
      rw [(paint_zero h2.lim b).1]
      rcases Nat.eq_zero_or_pos (a2.P b) with c | c
      · exact .inr c
      · exact .inl (h5 b (.inr (by omega))).1
    · refine ⟨(h5 b (.inl hb)).1, ?_, (h5 b (.inl hb)).2⟩
      show paint a2.P 0 w w' b = 0
      rw [(paint_zero h2.lim b).1]; exact (h4 b hb).2.1
/-- a step of the first that leaves something new behind -/
theorem TwoW.leftN (h : TwoW R w p m p2 m2) : ∃ R' : Nat → Prop, WoN R' w p m ∧ (∀ b, R b → R' b) ∧ ∀ (w' : World) (m' : Wo), WoN (fun b => R' b ∨ (w.heap.size ≤ b ∧ b < w'.heap.size)) w' p m' → Tide.Chg (fun b => ¬ R' b) w w' → TwoW (fun b => R b ∨ (w.heap.size ≤ b ∧ b < w'.heap.size)) w' p m' p2 m2 ∧ Tide.Chg (fun b => ¬ R b) w w' := by
  obtain ⟨a, a2, h1, h2, h3, h4⟩ := h
  refine ⟨fun b => R b ∨ a2.P b ≠ 0, ⟨a, h1, fun b hb => ?_⟩, fun b hb => .inl hb, fun w' m' hn hch => ?_⟩
  · rcases hb with hb | hb
    · exact ⟨(h4 b hb).1, (h4 b hb).2.2⟩
    · exact ⟨(h3 b).resolve_right hb, h2.lim b hb⟩
  · obtain ⟨a', h1', h5⟩ := hn
    refine ⟨⟨a', { a2 with P := paint a2.P 0 w w' }, h1', h2.turn hch (fun b hb => ?_), fun b => ?_, fun b hb => ?_⟩, hch.mono fun b _ hb hR => hb (.inl hR)⟩
    · rcases Nat.eq_zero_or_pos (a2.P b) with c | c
      · exact c
      · exact absurd (.inr (by omega)) hb
    · show a'.P b = 0 ∨ paint a2.P 0 w w' b = 0
      rw [(paint_zero h2.lim b).1]
      rcases Nat.eq_zero_or_pos (a2.P b) with c | c
      · exact .inr c
      · exact .inl (h5 b (.inl (.inr (by omega)))).1
    · show a'.P b = 0 ∧ paint a2.P 0 w w' b = 0 ∧ _
      rcases hb with hb | hb
      · refine ⟨(h5 b (.inl (.inl hb))).1, ?_, (h5 b (.inl (.inl hb))).2⟩
        rw [(paint_zero h2.lim b).1]; exact (h4 b hb).2.1
      · exact ⟨(h5 b (.inr hb)).1, (paint_zero h2.lim b).2 hb.1, hb.2⟩
theorem TwoW.right (h : TwoW R w p m p2 m2) : ∃ R' : Nat → Prop, WoN R' w p2 m2 ∧ (∀ b, R b → R' b) ∧ ∀ (w' : World) (m' : Wo), WoC R' w w' p2 m' → TwoW R w' p m p2 m' ∧ Tide.Chg (fun b => ¬ R b) w w' := by
  obtain ⟨R', h1, h2, h3⟩ := h.swap.left
  exact ⟨R', h1, h2, fun w' m' hc => ⟨(h3 w' m' hc).1.swap, (h3 w' m' hc).2⟩⟩
theorem TwoW.grow (h : TwoW R w p m p2 m2) (hc : Tide.Chg (fun _ => False) w w') : TwoW (fun b => R b ∨ (w.heap.size ≤ b ∧ b < w'.heap.size)) w' p m p2 m2 := by
  obtain ⟨a, a2, h1, h2, h3, h4⟩ := h
  have hz := hc.size
  refine ⟨_, _, h1.turn hc (fun _ h => h.elim), h2.turn hc (fun _ h => h.elim), fun b => ?_, fun b hb => ?_⟩
  · show paint a.P 0 w w' b = 0 ∨ paint a2.P 0 w w' b = 0
    rw [(paint_zero h1.lim b).1, (paint_zero h2.lim b).1]; exact h3 b
  · show paint a.P 0 w w' b = 0 ∧ paint a2.P 0 w w' b = 0 ∧ _
    rcases hb with hb | hb
    · rw [(paint_zero h1.lim b).1, (paint_zero h2.lim b).1]; exact ⟨(h4 b hb).1, (h4 b hb).2.1, Nat.lt_of_lt_of_le (h4 b hb).2.2 hz⟩
    · exact ⟨(paint_zero h1.lim b).2 hb.1, (paint_zero h2.lim b).2 hb.1, hb.2⟩
theorem TwoW.mono {R' : Nat → Prop} (h : TwoW R w p m p2 m2) (hs : ∀ b, R' b → R b) : TwoW R' w p m p2 m2 := by
  obtain ⟨a, a2, h1, h2, h3, h4⟩ := h
  exact ⟨a, a2, h1, h2, h3, fun b hb => h4 b (hs b hb)⟩
theorem TwoW.below (h : TwoW R w p m p2 m2) (hb : Below w.heap.size w w') : TwoW R w' p m p2 m2 := (h.grow (Tide.Chg.of_below hb (Nat.le_refl _))).mono fun _ h => .inl h
theorem TwoW.chg (h : TwoW R w p m p2 m2) (hc : Tide.Chg (fun _ => False) w w') : TwoW R w' p m p2 m2 := (h.grow hc).mono fun _ h => .inl h
theorem TwoW.one (h : TwoW R w p m p2 m2) : WoN R w p m := by obtain ⟨R', h1, h2, _⟩ := h.left; exact h1.mono h2
theorem TwoW.two (h : TwoW R w p m p2 m2) : WoN R w p2 m2 := h.swap.one
theorem TwoW.boxed (h : TwoW R w p m p2 m2) (o : Obj) : TwoW (fun b => R b ∨ b = w.heap.size) (w.alloc o) p m p2 m2 ∧ Tide.Chg (fun b => ¬ R b) w (w.alloc o) :=
  ⟨(h.grow ((Tide.Chg.refl (fun _ => False) w).alloc o)).mono fun b hb => hb.imp id (fun e => by subst e; exact ⟨Nat.le_refl _, by simp⟩), (Tide.Chg.refl _ w).alloc o⟩
/-- a second world is made -/
theorem TwoW.made (h1 : WoN R w p m) (hR : ∀ b, R b → b < w.heap.size) (h2 : WoN (fun b => b < w.heap.size) w' p2 m2) (hb : Below w.heap.size w w') : TwoW R w' p m p2 m2 := by
  obtain ⟨a, ha, h5⟩ := h1
  obtain ⟨a2, ha2, h6⟩ := h2
  have hz := hb.size
  refine ⟨_, a2, ha.turn (Tide.Chg.of_below (S := fun _ => False) hb (Nat.le_refl _)) (fun _ h => h.elim), ha2, fun b => ?_, fun b hb2 => ?_⟩
  · show paint a.P 0 w w' b = 0 ∨ _
    rcases Nat.lt_or_ge b w.heap.size with c | c
    · exact .inr (h6 b c).1
    · exact .inl ((paint_zero ha.lim b).2 c)
  · have := hR b hb2
    refine ⟨?_, (h6 b this).1, by omega⟩
    show paint a.P 0 w w' b = 0
    rw [(paint_zero ha.lim b).1]; exact (h5 b hb2).1
end
end Go.Proofs.YtlfaogkdghnmcaaGreat
