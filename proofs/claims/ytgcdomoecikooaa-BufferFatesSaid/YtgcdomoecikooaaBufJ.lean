/- The small check 'asked'. -/
import Derived.Test.YtgcdomoecikooaaBufI
namespace Go.Proofs.Ytgcdomoecikooaa
open Go.RowKit
set_option linter.unusedVariables false

/-- what is there behind a run: the buffer alone has been written, in new blocks -/
structure BufSolo (T : TypeId) (w0 w : World) (S : Nat → Prop) (g : Nat) (v : Value) (l : List Tide.Req) : Prop where
  buf : BAt T S w g v l
  own : ∀ b, S b → w0.heap.size ≤ b
  below : Below w0.heap.size w0 w
theorem BufSolo.plus {T : TypeId} {w0 w w' : World} {S : Nat → Prop} {g : Nat} {v v' : Value} {l l' : List Tide.Req} (h : BufSolo T w0 w S g v l) (hb : BAt T (Tide.Plus S w w') w' g v' l') (hc : Tide.Chg S w w') : BufSolo T w0 w' (Tide.Plus S w w') g v' l' :=
  ⟨hb, fun b hb => by rcases hb with hb | hb; exact h.own b hb; exact Nat.le_trans h.below.size hb.1, h.below.trans (hc.below h.below.size fun b hb hS => by have := h.own b hS; omega)⟩
theorem BufSolo.same {T : TypeId} {w0 w w' : World} {S : Nat → Prop} {g : Nat} {v v' : Value} {l l' : List Tide.Req} (h : BufSolo T w0 w S g v l) (hb : BAt T S w' g v' l') (hc : Tide.Chg S w w') : BufSolo T w0 w' S g v' l' :=
  ⟨hb, h.own, h.below.trans (hc.below h.below.size fun b hb hS => by have := h.own b hS; omega)⟩
theorem BufSolo.read {T : TypeId} {w0 w w' : World} {S : Nat → Prop} {g : Nat} {v : Value} {l : List Tide.Req} (h : BufSolo T w0 w S g v l) (hb : Below w.heap.size w w') : BufSolo T w0 w' S g v l :=
  ⟨h.buf.below hb, h.own, h.below.trans (hb.mono h.below.size)⟩
theorem BufSolo.made {T : TypeId} {w w' : World} {g : Nat} (h : BAt T (Tide.Plus (fun _ => False) w w') w' g (.slice none 0 0) []) (hb : Below w.heap.size w w') : BufSolo T w w' (Tide.Plus (fun _ => False) w w') g (.slice none 0 0) [] :=
  ⟨h, fun b hb => by rcases hb with hb | hb; exact hb.elim; exact hb.1, hb⟩
def askK (k : Nat) : List Tide.Req := (List.range k).map fun (i : Nat) => ⟨(i : Int) + 1, 3, 5, 1, 0⟩
def askR : List Tide.Req := [⟨1, 3, 5, 2, 7⟩, ⟨2, 3, 5, 1, 0⟩]
theorem ask_step {k : Nat} (hk : k < 2) : Tide.askLst (askK k) 0 3 5 = askK (k + 1) ∧ Tide.askErr (askK k) 0 3 5 = 0 := by
  have : k = 0 ∨ k = 1 := by omega
  rcases this with rfl | rfl <;> exact ⟨by decide, by decide⟩
theorem ask_facts : Tide.nextN (askK 2) = 1 ∧ Tide.runErr (askK 2) 2 = 7 ∧ Tide.runLst (askK 2) 2 7 = askK 2 ∧ Tide.runErr (askK 2) 1 = 0 ∧ Tide.runLst (askK 2) 1 7 = askR ∧ Tide.nextN askR = 0 ∧ Tide.doneNum askR 1 = 7 ∧ Tide.doneErr askR 1 = 0 := by decide
set_option maxRecDepth 100000 in
set_option maxHeartbeats 3200000 in
theorem bufAsked (w : World) : Calls Try.prog 9 #[] w fun e w' => e = .returned (.bool true) ∧ Below w.heap.size w w' := by
  go_enter Try.func9, Try.ntmps9
  go_wp2_with fail
  refine (bufNew _).mono ?_
  rintro e w1 ⟨g, rfl, h1, hb1⟩
  have H1 := Lib.hid (BufSolo.made h1 hb1)
  clear h1 hb1
  go_wp2_with fail
  go_loopw [11] (fun i wr => ∃ k : Nat, k ≤ 2 ∧ i = .int .i64 k ∧ ∃ S v, Hid (BufSolo 74 w wr S g v (askK k))) (fun i _ => 2 - (intOf i).toNat)
  case atStart => exact ⟨0, by omega, rfl, _, _, H1⟩
  case round =>
    clear H1
    obtain ⟨k, hk, rfl, S, v, H⟩ := hrel
    by_cases hlt : k < 2
    · have i1 : (k : Int) < 2 := by omega
      obtain ⟨a1, a2⟩ := ask_step hlt
      have A1 := Lib.hid a1
      clear a1
      go_wp2_with fail
      refine (bufAsk S g v (askK k) 0 3 5 _ H.out.buf).mono ?_
      rintro e w2 ⟨rfl, ⟨v2, h2⟩, c2⟩
      rw [A1.out] at h2
      have H2 := Lib.hid (H.out.plus h2 c2)
      rw [a2]
      clear h2 c2 a2
      generalize Tide.askNum (askK k) 0 3 5 = n
      go_wp2_with fail
      go_roundw
      case rel => exact ⟨k + 1, by omega, by go_num, _, _, H2⟩
      case measure => simp [intOf]; omega
    · have hke : k = 2 := by omega
      subst hke
      obtain ⟨f1, f2, f3, f4, f5, f6, f7, f8⟩ := ask_facts
      have F1 := Lib.hid f1; have F2 := Lib.hid f2; have F3 := Lib.hid f3; have F4 := Lib.hid f4; have F5 := Lib.hid f5; have F6 := Lib.hid f6; have F7 := Lib.hid f7; have F8 := Lib.hid f8
      clear f1 f2 f3 f4 f5 f6 f7 f8 hlt
      go_wp2_with fail
      refine (bufNext S g v (askK 2) _ H.out.buf).mono ?_
      rintro e w2 ⟨rfl, hb2⟩
      have H2 := Lib.hid (H.out.read hb2)
      rw [F1.out]
      clear hb2
      go_wp2_with fail
      refine (bufRun S g v (askK 2) 2 7 _ H2.out.buf).mono ?_
      rintro e w3 ⟨rfl, ⟨v3, h3⟩, c3⟩
      rw [F3.out] at h3
      have H3 := Lib.hid (H2.out.same h3 c3)
      rw [F2.out]
      clear h3 c3
      go_wp2_with fail
      refine (bufRun S g v3 (askK 2) 1 7 _ H3.out.buf).mono ?_
      rintro e w4 ⟨rfl, ⟨v4, h4⟩, c4⟩
      rw [F5.out] at h4
      have H4 := Lib.hid (H3.out.same h4 c4)
      rw [F4.out]
      clear h4 c4
      go_wp2_with fail
      refine (bufNext S g v4 askR _ H4.out.buf).mono ?_
      rintro e w5 ⟨rfl, hb5⟩
      have H5 := Lib.hid (H4.out.read hb5)
      rw [F6.out]
      clear hb5
      go_wp2_with fail
      refine (bufDone S g v4 askR 1 _ H5.out.buf).mono ?_
      rintro e w6 ⟨rfl, ⟨v6, h6⟩, c6⟩
      have H6 := Lib.hid (H5.out.same h6 c6)
      rw [F7.out, F8.out]
      clear h6 c6
      go_wp2_with fail
      go_ret
      exact ⟨rfl, H6.out.below⟩
end Go.Proofs.Ytgcdomoecikooaa
