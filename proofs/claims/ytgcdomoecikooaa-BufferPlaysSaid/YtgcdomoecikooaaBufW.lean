/- The walk of BufferPlays. -/
import Derived.Test.YtgcdomoecikooaaBufQ
import Derived.Test.YtgcdomoecikooaaBufL
import Derived.Deep.DeepCutAuto
import Derived.Deep.CutBlock
import Derived.Deep.LoopGhost
import Derived.Deep.RegionHeld3
namespace Go.Proofs.Ytgcdomoecikooaa
open Go.RowKit
set_option linter.unusedVariables false

/-- both buffers hold the same -/
structure BothB (w0 w : World) (S1 S2 : Nat → Prop) (g1 g2 : Nat) (v1 v2 : Value) (l : List Tide.Req) : Prop where
  q : BAt 74 S1 w g1 v1 l
  b : BAt 47 S2 w g2 v2 l
  two : Tide.Two w0 w S1 S2
  good : Tide.Good l
def PairB (w0 w : World) (g1 g2 : Nat) : Prop := ∃ S1 S2 v1 v2 l, BothB w0 w S1 S2 g1 g2 v1 v2 l
section
variable {w0 w w1 w2 w3 : World} {S1 S2 : Nat → Prop} {g1 g2 : Nat} {v1 v2 v1' v2' : Value} {l l' : List Tide.Req}
theorem BothB.pair (h : BothB w0 w S1 S2 g1 g2 v1 v2 l) : PairB w0 w g1 g2 := ⟨_, _, _, _, _, h⟩
theorem BothB.chg0 (h : BothB w0 w S1 S2 g1 g2 v1 v2 l) (hc : Tide.Chg (fun _ => False) w w1) : BothB w0 w1 S1 S2 g1 g2 v1 v2 l :=
  ⟨h.q.chg hc (fun _ _ h => h), h.b.chg hc (fun _ _ h => h), h.two.none hc, h.good⟩
theorem BothB.read (h : BothB w0 w S1 S2 g1 g2 v1 v2 l) (hb : Below w.heap.size w w1) : BothB w0 w1 S1 S2 g1 g2 v1 v2 l := h.chg0 (Tide.Chg.of_below hb (Nat.le_refl _))
theorem BothB.alloc (h : BothB w0 w S1 S2 g1 g2 v1 v2 l) (o : Obj) : BothB w0 (w.alloc o) S1 S2 g1 g2 v1 v2 l := h.chg0 ((Tide.Chg.refl _ w).alloc o)
theorem BothB.drew (h : BothB w0 w S1 S2 g1 g2 v1 v2 l) : BothB w0 w.drew S1 S2 g1 g2 v1 v2 l := h.chg0 (Tide.Chg.refl _ w).drew
/-- the program's buffer has been written, the reference's not yet -/
structure HalfB (w0 w w1 : World) (S1 S2 : Nat → Prop) (g1 g2 : Nat) (v1 v2 : Value) (l l' : List Tide.Req) : Prop where
  q : BAt 74 (Tide.Plus S1 w w1) w1 g1 v1 l'
  b : BAt 47 S2 w1 g2 v2 l
  two : Tide.Two w0 w1 (Tide.Plus S1 w w1) S2
theorem BothB.left (h : BothB w0 w S1 S2 g1 g2 v1 v2 l) (q : BAt 74 (Tide.Plus S1 w w1) w1 g1 v1' l') (c : Tide.Chg S1 w w1) : HalfB w0 w w1 S1 S2 g1 g2 v1' v2 l l' :=
  ⟨q, h.b.chg c (fun b hb h' => h.two.dis b h' hb), h.two.left c⟩
theorem HalfB.right (h : HalfB w0 w w1 S1 S2 g1 g2 v1 v2 l l') (b : BAt 47 (Tide.Plus S2 w1 w2) w2 g2 v2' l') (c : Tide.Chg S2 w1 w2) (hg : Tide.Good l') : BothB w0 w2 (Tide.Plus S1 w w1) (Tide.Plus S2 w1 w2) g1 g2 v1 v2' l' :=
  ⟨h.q.chg c (fun b h1 h2 => h.two.dis b h1 h2), b, h.two.right c, hg⟩
theorem BothB.size1 (h : BothB w0 w S1 S2 g1 g2 v1 v2 l) : ∀ b, S1 b → b < w.heap.size := fun b hb => (h.two.one b hb).2
theorem BothB.size2 (h : BothB w0 w S1 S2 g1 g2 v1 v2 l) : ∀ b, S2 b → b < w.heap.size := fun b hb => (h.two.two b hb).2
end
theorem pairB_made {w w1 : World} {g : Nat} {v : Value} (h : BAt 74 (Tide.Plus (fun _ => False) w w1) w1 g v []) (hb : Below w.heap.size w w1) :
    PairB w (w1.alloc (.cells #[.slice none 0 0] 47)) g w1.heap.size := by
  refine ⟨Tide.Plus (fun _ => False) w w1, Tide.Plus (fun _ => False) w1 (w1.alloc (.cells #[.slice none 0 0] 47)), _, .slice none 0 0, [], h.alloc _,
    ⟨Tide.At.made w1 _ _, Tide.OwnRow.nil _ _ _ _, .inr ⟨Nat.le_refl _, by simp⟩, by simp, fun b hb => by rcases hb with hb | hb; exact hb.elim; exact hb.2⟩, ⟨?_, ?_, ?_, hb.alloc hb.size _⟩, Tide.Good.nil⟩
  · intro b h3 h4
    rcases h3 with h3 | h3
    · exact h3
    · rcases h4 with h4 | h4
      · exact h4
      · omega
  · intro b h3
    rcases h3 with h3 | h3
    · exact h3.elim
    · simp; omega
  · intro b h3
    have := hb.size
    rcases h3 with h3 | h3
    · exact h3.elim
    · omega
theorem halNextN (S : Nat → Prop) (g : Nat) (v : Value) (l : List Tide.Req) (w : World) (h : BAt 47 S w g v l) (hn : Tide.Numbered l) :
    Calls Try.prog 23 #[.pointer (some ⟨g, 0, none⟩)] w fun e w' => e = .returned (.tuple #[.int .i64 (Tide.nextN l), .bool (decide (0 < Tide.nextN l))]) ∧ w = w' := by
  rw [Tide.next_same hn]; exact halNext S g v l w h hn
theorem idsF_small (p : Tide.Req → Bool) (l : List Tide.Req) (h : l.length ≤ 200) : (Tide.idsF p l).length ≤ 1000000 := by
  unfold Tide.idsF; rw [List.length_map]
  exact Nat.le_trans (List.length_filter_le _ _) (by omega)
theorem lateIds_small (l : List Tide.Req) (x : Int) (h : l.length ≤ 200) : (Tide.lateIds l x).length ≤ 1000000 := by
  unfold Tide.lateIds; split
  · exact idsF_small _ l h
  · simp
set_option maxRecDepth 100000 in
set_option maxHeartbeats 25600000 in
theorem bufferPlays_walk (v : Value) (l : List (List Int)) (w : World) (hl : ArgRows w 4 v l) :
    Calls Try.prog 5 #[v] w fun e w' => e = .returned (.bool true) ∧ Below w.heap.size w w' := by
  obtain ⟨A, cap, rfl, hcap, hmax, hrows, hA⟩ := hl
  have HA := Lib.hid hA
  have HR := Lib.hid hrows
  clear hA hrows hcap hmax
  by_cases hlen : 300 < l.length
  · have hbig : (300 : Int) < (l.length : Int) := by omega
    go_enter Try.func5, Try.ntmps5
    go_wp2_with fail
    go_ret
    exact ⟨rfl, Below.refl _ _⟩
  have hsm : (l.length : Int) ≤ 300 := by omega
  clear hlen
  go_enter Try.func5, Try.ntmps5
  go_wp2_with fail
  refine (bufNew _).mono ?_
  rintro e w1 ⟨g1, rfl, hq, hb⟩
  have hP := Lib.hid (pairB_made hq hb)
  clear hq hb
  go_wp2_with fail
  generalize w1.heap.size = g2 at hP ⊢
  go_loopg [32] l.length (fun k i wr => ∃ j : Nat, i = .int .i64 j ∧ j ≤ l.length ∧ k = l.length - j ∧ PairB w wr g1 g2)
  case atStart => exact ⟨0, rfl, by omega, by omega, hP.out⟩
  case round =>
    obtain ⟨j, rfl, hj, hk, S1, S2, v1, v2, L, hB⟩ := hrel
    have HK := Lib.hid hk
    by_cases hlt : j < l.length
    · obtain ⟨b, off, x, t, y, z, rfl, hx, ht, hy, hz⟩ := turn_row HA.out HR.out hB.two.below hlt
      have hj0 : (0 : Int) ≤ (j : Int) := by omega
      have hj1 : (j : Int) < (l.length : Int) := by omega
      have HB := Lib.hid (hB.alloc (.cells #[.int .i64 x, .int .i64 t, .int .i64 y, .int .i64 z] 28))
      have HX := Lib.hid (Tide.At.made wr 28 #[.int .i64 x, .int .i64 t, .int .i64 y, .int .i64 z])
      have HL1 := Lib.hid (fun (b : Nat) (hb : S1 b) => (hB.two.one b hb).2)
      have HL2 := Lib.hid (fun (b : Nat) (hb : S2 b) => (hB.two.two b hb).2)
      clear hB hk
      by_cases x0 : x = 0
      · subst x0
        go_wp2_with fail
        refine (bufAsk S1 g1 v1 L t y z _ HB.out.q).mono ?_
        rintro e w2 ⟨rfl, ⟨v1', q2⟩, c2⟩
        have X2 := HX.out.stays c2 HL1.out
        have t2 := X2.here (i := 1) rfl; have y2 := X2.here (i := 2) rfl; have z2 := X2.here (i := 3) rfl
        have H2 := Lib.hid (HB.out.left q2 c2)
        clear hx ht hy hz q2 c2 X2
        go_wp2_with fail
        refine (halAsk S2 g2 v2 L t y z _ H2.out.b (HB.out.good.few y) HB.out.good.all).mono ?_
        rintro e w3 ⟨rfl, ⟨v2', b3⟩, c3⟩
        have HN := Lib.hid (H2.out.right b3 c3 (HB.out.good.ask t y z))
        clear b3 c3 t2 y2 z2
        go_wp2_with fail
        refine (bufCounted _ _ g1 g2 _ _ _ _ HN.out.q HN.out.b).mono ?_
        rintro e w4 ⟨rfl, hb4⟩
        have HN4 := Lib.hid (HN.out.read hb4).pair
        clear hb4
        go_wp2_with fail
        go_roundg (l.length - (j + 1))
        case measure => have := HK.out; omega
        case rel => exact ⟨j + 1, by go_num, by omega, rfl, HN4.out⟩
      by_cases x1 : x = 1
      · subst x1
        clear x0
        go_wp2_with fail
        refine (bufLate S1 g1 v1 L t _ HB.out.q).mono ?_
        rintro e w2 ⟨u2, rfl, o2, q2, c2⟩
        have X2 := HX.out.stays c2 HL1.out
        have t2 := X2.here (i := 1) rfl
        have H2 := Lib.hid (HB.out.left q2.up c2)
        have O2 := Lib.hid o2
        clear hx ht hy hz q2 c2 X2 o2
        go_wp2_with fail
        refine (halLate S2 g2 v2 L t _ H2.out.b HB.out.good.num).mono ?_
        rintro e w3 ⟨u3, rfl, o3, b3, c3⟩
        have o2 := O2.out.chg c3 (fun b h1 h2 => by have := HL2.out b h2; simp at h1; omega)
        have HN0 := Lib.hid (H2.out.right b3.up c3 (HB.out.good.tame (Tide.tame_late L t)))
        have I2 := Lib.hid (ints_in o2); have I3 := Lib.hid (ints_in o3)
        clear b3 c3 t2 o2 o3
        go_wp2_with fail
        refine (ints_equal _ _ _ _ I2.out I3.out (lateIds_small L t HB.out.q.small)).mono ?_
        rintro e w5 ⟨rfl, c5⟩
        have HN := Lib.hid (HN0.out.chg0 c5)
        clear c5
        go_wp2_with fail
        refine (bufCounted _ _ g1 g2 _ _ _ _ HN.out.q HN.out.b).mono ?_
        rintro e w4 ⟨rfl, hb4⟩
        have HN4 := Lib.hid (HN.out.read hb4).pair
        clear hb4
        go_wp2_with fail
        go_roundg (l.length - (j + 1))
        case measure => have := HK.out; omega
        case rel => exact ⟨j + 1, by go_num, by omega, rfl, HN4.out⟩
      by_cases x2 : x = 2
      · subst x2
        clear x0 x1
        go_wp2_with fail
        refine (bufNext S1 g1 v1 L _ HB.out.q).mono ?_
        rintro e w2 ⟨rfl, hb2⟩
        have H2 := Lib.hid (HB.out.read hb2)
        clear hx ht hy hz hb2
        go_wp2_with fail
        refine (halNextN S2 g2 v2 L _ H2.out.b HB.out.good.num).mono ?_
        rintro e w3 ⟨rfl, rfl⟩
        have HN := H2
        go_wp2_with fail
        refine (bufCounted _ _ g1 g2 _ _ _ _ HN.out.q HN.out.b).mono ?_
        rintro e w4 ⟨rfl, hb4⟩
        have HN4 := Lib.hid (HN.out.read hb4).pair
        clear hb4
        go_wp2_with fail
        go_roundg (l.length - (j + 1))
        case measure => have := HK.out; omega
        case rel => exact ⟨j + 1, by go_num, by omega, rfl, HN4.out⟩
      by_cases x3 : x = 3
      · subst x3
        clear x0 x1 x2
        have HB' := Lib.hid HB.out.drew
        have y1 := HX.out.drew.here (i := 2) rfl
        have z1 := HX.out.drew.here (i := 3) rfl
        go_wp2_with fail
        go_region_held3 (fun w' => w'.cell? ⟨wr.heap.size, 2, none⟩ = some (.int .i64 y) ∧ w'.cell? ⟨wr.heap.size, 3, none⟩ = some (.int .i64 z)) (first | exact ⟨y3, z3⟩ | exact ⟨y2, z2⟩ | go_keep) (first | (go_at_call 13; refine (bufRun S1 g1 v1 L y z _ HB'.out.q).mono ?_; rintro e w2 ⟨rfl, ⟨v1', q2⟩, c2⟩; have X2 := HX.out.drew.stays c2 HL1.out; have y2 := X2.here (i := 2) rfl; have z2 := X2.here (i := 3) rfl) | (go_at_call 24; refine (halRun S2 g2 v2 L y z _ (HB'.out.b.chg c2 (fun b hb h => HB'.out.two.dis b h hb)) HB.out.good.num).mono ?_; rintro e w3 ⟨rfl, ⟨v2', b3⟩, c3⟩; have X3 := X2.stays c3 HL2.out; have y3 := X3.here (i := 2) rfl; have z3 := X3.here (i := 3) rfl))
        all_goals
          have HN := Lib.hid ((HB'.out.left q2.up c2).right b3.up c3 (HB.out.good.tame (Tide.tame_run L y z)))
          clear q2 c2 b3 c3 X2 X3 y2 z2 y3 z3 y1 z1 hx ht hy hz
          go_wp2_with fail
          refine (bufCounted _ _ g1 g2 _ _ _ _ HN.out.q HN.out.b).mono ?_
          rintro e w4 ⟨rfl, hb4⟩
          have HN4 := Lib.hid (HN.out.read hb4).pair
          clear hb4
          go_wp2_with fail
          go_roundg (l.length - (j + 1))
          case measure => have := HK.out; omega
          case rel => exact ⟨j + 1, by go_num, by omega, rfl, HN4.out⟩
      by_cases x4 : x = 4
      · subst x4
        clear x0 x1 x2 x3
        go_wp2_with fail
        refine (bufDone S1 g1 v1 L z _ HB.out.q).mono ?_
        rintro e w2 ⟨rfl, ⟨v1', q2⟩, c2⟩
        have X2 := HX.out.stays c2 HL1.out
        have z2 := X2.here (i := 3) rfl
        have H2 := Lib.hid (HB.out.left q2.up c2)
        clear hx ht hy hz q2 c2 X2
        go_wp2_with fail
        refine (halDone S2 g2 v2 L z _ H2.out.b).mono ?_
        rintro e w3 ⟨rfl, ⟨v2', b3⟩, c3⟩
        have HN := Lib.hid (H2.out.right b3.up c3 (HB.out.good.tame (Tide.tame_done L z)))
        clear b3 c3 z2
        go_wp2_with fail
        refine (bufCounted _ _ g1 g2 _ _ _ _ HN.out.q HN.out.b).mono ?_
        rintro e w4 ⟨rfl, hb4⟩
        have HN4 := Lib.hid (HN.out.read hb4).pair
        clear hb4
        go_wp2_with fail
        go_roundg (l.length - (j + 1))
        case measure => have := HK.out; omega
        case rel => exact ⟨j + 1, by go_num, by omega, rfl, HN4.out⟩
      by_cases x5 : x = 5
      · subst x5
        clear x0 x1 x2 x3 x4
        have HB' := Lib.hid HB.out.drew
        have z1 := HX.out.drew.here (i := 3) rfl
        go_wp2_with fail
        go_region_held3 (fun w' => w'.cell? ⟨wr.heap.size, 3, none⟩ = some (.int .i64 z)) (first | exact z5 | exact z3 | exact z2 | go_keep) (first | (go_at_call 15; refine (bufLost S1 g1 v1 L z _ HB'.out.q).mono ?_; rintro e w2 ⟨u2, rfl, o2, q2, c2⟩; have X2 := HX.out.drew.stays c2 HL1.out; have z2 := X2.here (i := 3) rfl) | (go_at_call 26; refine (halLost S2 g2 v2 L z _ (HB'.out.b.chg c2 (fun b hb h => HB'.out.two.dis b h hb)) HB.out.good.num).mono ?_; rintro e w3 ⟨u3, rfl, o3, b3, c3⟩; have X3 := X2.stays c3 HL2.out; have z3 := X3.here (i := 3) rfl) | (go_at_call 21; refine (ints_equal _ _ _ _ (ints_in (o2.chg c3 (fun b h1 h2 => by have := HL2.out b h2; have h1' : (wr.alloc (.cells #[.int .i64 5, .int .i64 t, .int .i64 y, .int .i64 z] 28)).heap.size ≤ b := h1; simp at h1'; omega))) (ints_in o3) (idsF_small _ L HB.out.q.small)).mono ?_; rintro e w5 ⟨rfl, c5⟩; have X5 := X3.stays c5 (fun _ h => h.elim); have z5 := X5.here (i := 3) rfl))
        all_goals
          have HN := Lib.hid (((HB'.out.left q2.up c2).right b3.up c3 (HB.out.good.tame (Tide.tame_lost L z))).chg0 c5)
          clear q2 c2 b3 c3 c5 o2 o3 X2 X3 X5 z2 z3 z5 z1 hx ht hy hz
          go_wp2_with fail
          refine (bufCounted _ _ g1 g2 _ _ _ _ HN.out.q HN.out.b).mono ?_
          rintro e w4 ⟨rfl, hb4⟩
          have HN4 := Lib.hid (HN.out.read hb4).pair
          clear hb4
          go_wp2_with fail
          go_roundg (l.length - (j + 1))
          case measure => have := HK.out; omega
          case rel => exact ⟨j + 1, by go_num, by omega, rfl, HN4.out⟩
      have e0 : (x == 0) = false := by simp [x0]
      have e1 : (x == 1) = false := by simp [x1]
      have e2 : (x == 2) = false := by simp [x2]
      have e3 : (x == 3) = false := by simp [x3]
      have e4 : (x == 4) = false := by simp [x4]
      have e5 : (x == 5) = false := by simp [x5]
      have HN := HB
      clear x0 x1 x2 x3 x4 x5
      go_wp2_with fail
      refine (bufCounted _ _ g1 g2 _ _ _ _ HN.out.q HN.out.b).mono ?_
      rintro e w4 ⟨rfl, hb4⟩
      have HN4 := Lib.hid (HN.out.read hb4).pair
      clear hb4
      go_wp2_with fail
      go_roundg (l.length - (j + 1))
      case measure => have := HK.out; omega
      case rel => exact ⟨j + 1, by go_num, by omega, rfl, HN4.out⟩
    · have HN := Lib.hid hB
      have hc : wr.cell? ⟨g2, 0, none⟩ = some v2 := hB.b.head.here rfl
      have hcd : wr.drew.cell? ⟨g2, 0, none⟩ = some v2 := hB.b.drew.head.here rfl
      clear hB hk hP
      go_wp2_with fail
      go_region_held3 (fun w' => w'.cell? ⟨g2, 0, none⟩ = some v2) (first | exact d5 | exact d2 | go_keep) (first | (go_at_call 16; refine (bufAll S1 g1 v1 L _ HN.out.drew.q).mono ?_; rintro e w2 ⟨u2, rfl, o2, b2⟩; have H2 := HN.out.drew.read b2; have d2 := H2.b.head.here (i := 0) rfl) | (go_at_call 28; refine (req_equal _ _ L _ (o2.list Tide.Req.enc_length) (H2.b.row.list Tide.Req.enc_length) (by have := HN.out.q.small; omega)).mono ?_; rintro e w5 ⟨rfl, c5⟩; have H5 := H2.chg0 c5; have d5 := H5.b.head.here (i := 0) rfl))
      all_goals
        have HF := Lib.hid H5.two.below
        clear o2 b2 c5 H2 H5 d2 d5 hc hcd
        go_wp2_with fail
        go_ret
        exact ⟨rfl, HF.out⟩
end Go.Proofs.Ytgcdomoecikooaa
