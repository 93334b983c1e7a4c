/- The walk of BufferFates. -/
import Derived.Test.YtgcdomoecikooaaBufS
namespace Go.Proofs.Ytgcdomoecikooaa
open Go.RowKit
set_option linter.unusedVariables false
/-- a buffer, and a list of its requests of the last turn -/
structure FateRun (w0 w : World) (g : Nat) (v4 : Value) (S : Nat → Prop) (v : Value) (l : List Tide.Req) (S3 : Nat → Prop) (was : List Tide.Req) : Prop where
  solo : BufSolo 74 w0 w S g v l
  row : Tide.OwnRow S3 w 42 5 v4 was.length (was.flatMap Tide.Req.enc)
  dis : ∀ b, S3 b → ¬ S b
  low : ∀ b, S3 b → b < w.heap.size
  fair : Tide.Fair l
  steps : Tide.Steps was l
def Fated (w0 w : World) (g : Nat) (v4 : Value) : Prop := ∃ S v l S3, FateRun w0 w g v4 S v l S3 l
section
variable {w0 w w' : World} {g : Nat} {v4 v v' : Value} {S S3 : Nat → Prop} {l l' was : List Tide.Req}
theorem FateRun.read (h : FateRun w0 w g v4 S v l S3 was) (hb : Below w.heap.size w w') : FateRun w0 w' g v4 S v l S3 was :=
  ⟨h.solo.read hb, h.row.below hb (Nat.le_refl _), h.dis, fun b hs => Nat.lt_of_lt_of_le (h.low b hs) hb.size, h.fair, h.steps⟩
theorem FateRun.alloc (h : FateRun w0 w g v4 S v l S3 was) (o : Obj) : FateRun w0 (w.alloc o) g v4 S v l S3 was := h.read ((Below.refl _ w).alloc (Nat.le_refl _) o)
theorem FateRun.turn (h : FateRun w0 w g v4 S v l S3 l) (q : BAt 74 (Tide.Plus S w w') w' g v' l') (c : Tide.Chg S w w') (hf : Tide.Fair l' ∧ Tide.Steps l l') : FateRun w0 w' g v4 (Tide.Plus S w w') v' l' S3 l :=
  ⟨h.solo.plus q c, h.row.chg c h.dis, fun b h3 hp => by
    rcases hp with hp | hp
    · exact h.dis b h3 hp
    · have := h.low b h3; omega, fun b hs => Nat.lt_of_lt_of_le (h.low b hs) c.size, hf.1, hf.2⟩
theorem FateRun.next (h : FateRun w0 w g v4 S v l S3 was) (hb : Below w.heap.size w w') {v5 : Value} (ho : Tide.OwnRow (fun b => w.heap.size ≤ b) w' 42 5 v5 l.length (l.flatMap Tide.Req.enc)) : FateRun w0 w' g v5 S v l (Tide.Plus (fun _ => False) w w') l :=
  ⟨h.solo.read hb, ho.mono fun b hlt hb => .inr ⟨hb, hlt⟩, fun b h3 hS => by
    rcases h3 with h3 | h3
    · exact h3
    · have := h.solo.buf.lim b hS; omega, fun b h3 => by
    rcases h3 with h3 | h3
    · exact h3.elim
    · exact h3.2, h.fair, Tide.Steps.refl _⟩
theorem FateRun.fated (h : FateRun w0 w g v4 S v l S3 l) : Fated w0 w g v4 := ⟨_, _, _, _, h⟩
end
set_option maxRecDepth 100000 in
set_option maxHeartbeats 12800000 in
theorem bufferFates_walk (v : Value) (l : List (List Int)) (w : World) (hl : ArgRows w 4 v l) :
    Calls Try.prog 3 #[v] w fun e w' => e = .returned (.bool true) ∧ Below w.heap.size w w' := by
  obtain ⟨A, cap, rfl, hcap, hmax, hrows, hA⟩ := hl
  have HA := Lib.hid hA; have HR := Lib.hid hrows
  clear hA hrows hcap hmax
  go_enter Try.func3, Try.ntmps3
  go_wp2_with fail
  refine (bufAsked _).mono ?_
  rintro e w1 ⟨rfl, hb1⟩
  have HB1 := Lib.hid hb1
  clear hb1
  by_cases hlen : 150 < l.length
  · have hbig : (150 : Int) < (l.length : Int) := by omega
    go_wp2_with fail
    go_ret
    exact ⟨rfl, HB1.out⟩
  have hsm : (l.length : Int) ≤ 150 := by omega
  clear hlen
  go_wp2_with fail
  refine (bufNew _).mono ?_
  rintro e w2 ⟨g, rfl, h2, hb2⟩
  have H2 := BufSolo.made h2 hb2
  have H0 := Lib.hid (show Fated w w2 g (.slice none 0 0) from ⟨_, _, _, fun _ => False, ⟨⟨H2.buf, fun b hb => Nat.le_trans HB1.out.size (H2.own b hb), HB1.out.trans (hb2.mono HB1.out.size)⟩, Tide.OwnRow.nil _ _ _ _, fun _ h => h.elim, fun _ h => h.elim, Tide.Fair.nil, Tide.Steps.refl _⟩⟩)
  clear h2 hb2 H2
  go_wp2_with fail
  go_loopw [4, 16] (fun u i wr => ∃ k : Nat, k ≤ l.length ∧ i = .int .i64 k ∧ Hid (Fated w wr g u)) (fun _ i _ => l.length - (intOf i).toNat)
  case atStart => exact ⟨0, by omega, rfl, H0⟩
  case round =>
    clear H0
    obtain ⟨k, hk, rfl, H⟩ := hrel
    obtain ⟨S, v, L, S3, hF0⟩ := H.out
    have HF0 := Lib.hid hF0
    obtain ⟨A4, cap4, rfl, _, _, _⟩ := hF0.row.slice
    clear hF0 H
    by_cases hlt : k < l.length
    · obtain ⟨b, off, x, t, y, z, rfl, hx, ht, hy, hz⟩ := turn_row HA.out HR.out HF0.out.solo.below hlt
      have i0 : (0 : Int) ≤ (k : Int) := by omega
      have i1 : (k : Int) < (l.length : Int) := by omega
      have HF1 := Lib.hid (HF0.out.alloc (.cells #[.int .i64 x, .int .i64 t, .int .i64 y, .int .i64 z] 28))
      have HEnd : ∀ w3, Hid (∃ S' v' l', FateRun w w3 g (.slice A4 L.length cap4) S' v' l' S3 L) → Hid (∃ S' v' l', FateRun w w3 g (.slice A4 L.length cap4) S' v' l' S3 L) := fun _ h => h
      clear HF0
      by_cases x0 : x = 0
      case' pos =>
        subst x0
        go_wp2_with fail
        refine (bufAsk S g v L t y z _ HF1.out.solo.buf).mono ?_
        rintro e w3 ⟨rfl, ⟨v3, h3⟩, c3⟩
        have HN := HEnd _ (Lib.hid ⟨_, _, _, HF1.out.turn h3 c3 (Tide.fair_ask HF1.out.fair t y z)⟩)
        clear h3 c3 hx ht hy hz HF1
        go_wp2_with fail
      case' neg =>
        by_cases x1 : x = 1
        case' pos =>
          subst x1
          clear x0
          go_wp2_with fail
          refine (bufLate S g v L t _ HF1.out.solo.buf).mono ?_
          rintro e w3 ⟨u3, rfl, _, h3, c3⟩
          have HN := HEnd _ (Lib.hid ⟨_, _, _, HF1.out.turn h3.up c3 (Tide.fair_late HF1.out.fair t)⟩)
          clear h3 c3 hx ht hy hz HF1
          go_wp2_with fail
        case' neg =>
          by_cases x3 : x = 3
          case' pos =>
            subst x3
            clear x0 x1
            go_wp2_with fail
            refine (bufRun S g v L y z _ HF1.out.solo.buf).mono ?_
            rintro e w3 ⟨rfl, ⟨v3, h3⟩, c3⟩
            have HN := HEnd _ (Lib.hid ⟨_, _, _, HF1.out.turn h3.up c3 (Tide.fair_run HF1.out.fair y z)⟩)
            clear h3 c3 hx ht hy hz HF1
            go_wp2_with fail
          case' neg =>
            by_cases x4 : x = 4
            case' pos =>
              subst x4
              clear x0 x1 x3
              go_wp2_with fail
              refine (bufDone S g v L z _ HF1.out.solo.buf).mono ?_
              rintro e w3 ⟨rfl, ⟨v3, h3⟩, c3⟩
              have HN := HEnd _ (Lib.hid ⟨_, _, _, HF1.out.turn h3.up c3 (Tide.fair_done HF1.out.fair z)⟩)
              clear h3 c3 hx ht hy hz HF1
              go_wp2_with fail
            case' neg =>
              by_cases x5 : x = 5
              case' pos =>
                subst x5
                clear x0 x1 x3 x4
                go_wp2_with fail
                refine (bufLost S g v L z _ HF1.out.solo.buf).mono ?_
                rintro e w3 ⟨u3, rfl, _, h3, c3⟩
                have HN := HEnd _ (Lib.hid ⟨_, _, _, HF1.out.turn h3.up c3 (Tide.fair_lost HF1.out.fair z)⟩)
                clear h3 c3 hx ht hy hz HF1
                go_wp2_with fail
              case' neg =>
                have e0 : (x == 0) = false := by simp [x0]
                have e1 : (x == 1) = false := by simp [x1]
                have e3 : (x == 3) = false := by simp [x3]
                have e4 : (x == 4) = false := by simp [x4]
                have e5 : (x == 5) = false := by simp [x5]
                clear x0 x1 x3 x4 x5
                go_wp2_with fail
                have HN := HEnd _ (Lib.hid ⟨_, _, _, HF1.out⟩)
                clear hx ht hy hz HF1 e0 e1 e3 e4 e5
      all_goals
        obtain ⟨S', v', L', HP⟩ := HN.out
        have HP' := Lib.hid HP
        clear HP HN HEnd
        refine (bufAll S' g v' L' _ HP'.out.solo.buf).mono ?_
        rintro e w4 ⟨v5, rfl, h5, hb5⟩
        have HP5 := Lib.hid (HP'.out.next hb5 h5)
        have HU := Lib.hid (HP'.out.read hb5).row
        have HS := Lib.hid HP'.out.steps
        have hle : (L.length : Int) ≤ (L'.length : Int) := by have := HP'.out.steps.1; omega
        obtain ⟨A5, cap5, rfl, _, _, _⟩ := h5.slice
        clear h5 hb5 HP'
        go_wp2_with fail
        refine (fates_true _ _ _ _ L L' _ HU.out HP5.out.row HP5.out.solo.buf.small HP5.out.fair HS.out).mono ?_
        rintro e w6 ⟨rfl, hb6⟩
        have HN := Lib.hid (HP5.out.read hb6).fated
        clear hb6
        go_wp2_with fail
        go_roundw
        case rel => exact ⟨k + 1, by omega, by go_num, HN⟩
        case measure => simp [intOf]; omega
    · have HN := Lib.hid HF0.out.solo.below
      clear HF0
      go_wp2_with fail
      go_ret
      exact ⟨rfl, HN.out⟩
end Go.Proofs.Ytgcdomoecikooaa
