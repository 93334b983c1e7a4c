/- The walk of FleetPlays: both fleets side by side. -/
import Derived.Test.YtgcdomoecikooaaFleS
import Derived.Test.YtgcdomoecikooaaFleJ
import Derived.Deep.RegionHeld3
namespace Go.Proofs.Ytgcdomoecikooaa
open Go.RowKit
set_option linter.unusedVariables false
set_option maxRecDepth 100000 in
set_option maxHeartbeats 1600000 in
theorem pod_equal (u v : Value) (l : List Tide.Pod) (w : World) (hu : Tide.ListIn w 3 Tide.Pod.enc u l) (hv : Tide.ListIn w 3 Tide.Pod.enc v l) (hl : l.length ≤ 100000000) :
    Calls Try.prog 48 #[u, v] w fun e w' => e = .returned (.bool true) ∧ Tide.Chg (fun _ => False) w w' := by
  obtain ⟨A, c, rfl, hA⟩ := hu
  obtain ⟨A', c', rfl, hA'⟩ := hv
  have HA := Lib.hid hA; have HA' := Lib.hid hA'
  clear hA hA'
  go_enter Try.func48, Try.ntmps48
  go_wp2_with fail
  go_loopw [13] (fun i wr => ∃ k : Nat, k ≤ l.length ∧ i = .int .i64 k ∧ Tide.Chg (fun _ => False) w wr) (fun i _ => l.length - (intOf i).toNat)
  case atStart => exact ⟨0, by omega, rfl, Tide.Chg.refl _ _⟩
  case round =>
    obtain ⟨k, hk, rfl, hch⟩ := hrel
    by_cases hlt : k < l.length
    · obtain ⟨b, off, e1, hb, hc⟩ := HA.out (by omega)
      obtain ⟨b', off', e1', hb', hc'⟩ := HA'.out (by omega)
      subst e1 e1'
      obtain ⟨m, hm⟩ := Tide.get_some l hlt
      have cl : ∀ (j : Nat) (u : Value), m.enc[j]? = some u → wr.cell? ⟨b, off + k * 3 + j, none⟩ = some u := fun j u hu => (World.cell?_of_block (w := w) (a := ⟨b, off + k * 3 + j, none⟩) (hch.block b hb (fun h => h))).trans (hc k m j u hm hu)
      have cl' : ∀ (j : Nat) (u : Value), m.enc[j]? = some u → wr.cell? ⟨b', off' + k * 3 + j, none⟩ = some u := fun j u hu => (World.cell?_of_block (w := w) (a := ⟨b', off' + k * 3 + j, none⟩) (hch.block b' hb' (fun h => h))).trans (hc' k m j u hm hu)
      have c0 : wr.cell? ⟨b, off + k * 3, none⟩ = _ := cl 0 _ rfl
      have d0 : wr.cell? ⟨b', off' + k * 3, none⟩ = _ := cl' 0 _ rfl
      have c1 := cl 1 _ rfl; have c2 := cl 2 _ rfl; have d1 := cl' 1 _ rfl; have d2 := cl' 2 _ rfl
      have i0 : (0 : Int) ≤ (k : Int) := by omega
      have i1 : (k : Int) < (l.length : Int) := by omega
      clear hc hc' hm HA HA' cl cl'
      go_wp2_with fail
      go_quiet (fail)
      go_wp2_with fail
      go_roundw
      case rel => exact ⟨k + 1, by omega, by go_num, hch.drewN _⟩
      case measure => simp [intOf]; omega
    · go_wp2_with fail
      go_ret
      exact ⟨rfl, hch⟩
/-- both fleets hold the same -/
structure BothF (w0 w : World) (S1 S2 : Nat → Prop) (g1 g2 : Nat) (v1 v2 : Value) (l : List Tide.Pod) (last most : Int) : Prop where
  q : FAt 88 S1 w g1 v1 l last most
  b : FAt 71 S2 w g2 v2 l last most
  two : Tide.Two w0 w S1 S2
  good : Tide.Crewed l last most
def PairF (w0 w : World) (g1 g2 : Nat) (most : Int) (j : Nat) : Prop := ∃ S1 S2 v1 v2 l last, BothF w0 w S1 S2 g1 g2 v1 v2 l last most ∧ last ≤ 50 * j ∧ l.length ≤ 50 * j
section
variable {w0 w w1 w2 w3 : World} {S1 S2 : Nat → Prop} {g1 g2 : Nat} {v1 v2 v1' v2' : Value} {l l' : List Tide.Pod} {last last' most : Int}
theorem BothF.chg0 (h : BothF w0 w S1 S2 g1 g2 v1 v2 l last most) (hc : Tide.Chg (fun _ => False) w w1) : BothF w0 w1 S1 S2 g1 g2 v1 v2 l last most :=
  ⟨h.q.chg hc (fun _ _ h => h), h.b.chg hc (fun _ _ h => h), h.two.none hc, h.good⟩
theorem BothF.read (h : BothF w0 w S1 S2 g1 g2 v1 v2 l last most) (hb : Below w.heap.size w w1) : BothF w0 w1 S1 S2 g1 g2 v1 v2 l last most := h.chg0 (Tide.Chg.of_below hb (Nat.le_refl _))
theorem BothF.alloc (h : BothF w0 w S1 S2 g1 g2 v1 v2 l last most) (o : Obj) : BothF w0 (w.alloc o) S1 S2 g1 g2 v1 v2 l last most := h.chg0 ((Tide.Chg.refl _ w).alloc o)
theorem BothF.drew (h : BothF w0 w S1 S2 g1 g2 v1 v2 l last most) : BothF w0 w.drew S1 S2 g1 g2 v1 v2 l last most := h.chg0 (Tide.Chg.refl _ w).drew
/-- the program's fleet has been written, the reference's not yet -/
structure HalfF (w0 w w1 : World) (S1 S2 : Nat → Prop) (g1 g2 : Nat) (v1 v2 : Value) (l l' : List Tide.Pod) (last last' most : Int) : Prop where
  q : FAt 88 (Tide.Plus S1 w w1) w1 g1 v1 l' last' most
  b : FAt 71 S2 w1 g2 v2 l last most
  two : Tide.Two w0 w1 (Tide.Plus S1 w w1) S2
theorem BothF.left (h : BothF w0 w S1 S2 g1 g2 v1 v2 l last most) (q : FAt 88 (Tide.Plus S1 w w1) w1 g1 v1' l' last' most) (c : Tide.Chg S1 w w1) : HalfF w0 w w1 S1 S2 g1 g2 v1' v2 l l' last last' most :=
  ⟨q, h.b.chg c (fun b hb h' => h.two.dis b h' hb), h.two.left c⟩
theorem HalfF.right (h : HalfF w0 w w1 S1 S2 g1 g2 v1 v2 l l' last last' most) (b : FAt 71 (Tide.Plus S2 w1 w2) w2 g2 v2' l' last' most) (c : Tide.Chg S2 w1 w2) (hg : Tide.Crewed l' last' most) : BothF w0 w2 (Tide.Plus S1 w w1) (Tide.Plus S2 w1 w2) g1 g2 v1 v2' l' last' most :=
  ⟨h.q.chg c (fun b h1 h2 => h.two.dis b h1 h2), b, h.two.right c, hg⟩
end
theorem pairF_made {w w1 : World} {g : Nat} {v : Value} {most : Int} (h : FAt 88 (Tide.Plus (fun _ => False) w w1) w1 g v [] 0 most) (hb : Below w.heap.size w w1) :
    PairF w (w1.alloc (.cells #[.slice none 0 0, .int .i64 0, .int .i64 most] 71)) g w1.heap.size most 0 := by
  refine ⟨Tide.Plus (fun _ => False) w w1, Tide.Plus (fun _ => False) w1 (w1.alloc (.cells #[.slice none 0 0, .int .i64 0, .int .i64 most] 71)), _, .slice none 0 0, [], 0, ⟨h.alloc _,
    ⟨Tide.At.made w1 _ _, Tide.OwnRow.nil _ _ _ _, .inr ⟨Nat.le_refl _, by simp⟩, by simp, fun b hb => by rcases hb with hb | hb; exact hb.elim; exact hb.2⟩, ⟨?_, ?_, ?_, hb.alloc hb.size _⟩, Tide.Crewed.nil most⟩, by decide, by decide⟩
  · intro b h3 h4
    rcases h3 with h3 | h3
    · exact h3
    · rcases h4 with h4 | h4
      · exact h4
      · omega
  · intro b h3
    rcases h3 with h3 | h3
    · exact h3.elim
    · simp; omega
  · intro b h3
    have := hb.size
    rcases h3 with h3 | h3
    · exact h3.elim
    · omega
end Go.Proofs.Ytgcdomoecikooaa
