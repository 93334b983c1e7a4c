/- The walk of StablePlays. -/
import Derived.Test.YtgkbdoecpbepbaaStbL
namespace Go.Proofs.Ytgkbdoecpbepbaa
open Go.RowKit
set_option linter.unusedVariables false
/-- both hold the same -/
structure BothS (w0 w : World) (S1 S2 : Nat → Prop) (g1 g2 : Nat) (a1 b1 a2 b2 : Value) (s : Tide.Stb) (j : Nat) : Prop where
  q : StbAt 94 101 S1 w g1 s a1 b1
  b : StbAt 99 104 S2 w g2 s a2 b2
  two : Tide.Two w0 w S1 S2
  ok : s.ok j
def PairS (w0 w : World) (g1 g2 : Nat) (j : Nat) : Prop := ∃ S1 S2 a1 b1 a2 b2 s, BothS w0 w S1 S2 g1 g2 a1 b1 a2 b2 s j
section
variable {w0 w w1 w2 w3 : World} {S1 S2 : Nat → Prop} {g1 g2 : Nat} {a1 b1 a2 b2 a1' b1' a2' b2' : Value} {s s' : Tide.Stb} {j j' : Nat}
theorem BothS.chg0 (h : BothS w0 w S1 S2 g1 g2 a1 b1 a2 b2 s j) (hc : Tide.Chg (fun _ => False) w w1) : BothS w0 w1 S1 S2 g1 g2 a1 b1 a2 b2 s j :=
  ⟨h.q.chg hc (fun _ _ h => h), h.b.chg hc (fun _ _ h => h), h.two.none hc, h.ok⟩
theorem BothS.alloc (h : BothS w0 w S1 S2 g1 g2 a1 b1 a2 b2 s j) (o : Obj) : BothS w0 (w.alloc o) S1 S2 g1 g2 a1 b1 a2 b2 s j := h.chg0 ((Tide.Chg.refl _ w).alloc o)
structure HalfS (w0 w w1 : World) (S1 S2 : Nat → Prop) (g1 g2 : Nat) (a1 b1 a2 b2 : Value) (s s' : Tide.Stb) : Prop where
  q : StbAt 94 101 (Tide.Plus S1 w w1) w1 g1 s' a1 b1
  b : StbAt 99 104 S2 w1 g2 s a2 b2
  two : Tide.Two w0 w1 (Tide.Plus S1 w w1) S2
theorem BothS.left (h : BothS w0 w S1 S2 g1 g2 a1 b1 a2 b2 s j) (q : StbAt 94 101 (Tide.Plus S1 w w1) w1 g1 s' a1' b1') (c : Tide.Chg S1 w w1) : HalfS w0 w w1 S1 S2 g1 g2 a1' b1' a2 b2 s s' :=
  ⟨q, h.b.chg c (fun b hb h' => h.two.dis b h' hb), h.two.left c⟩
theorem HalfS.right (h : HalfS w0 w w1 S1 S2 g1 g2 a1 b1 a2 b2 s s') (b : StbAt 99 104 (Tide.Plus S2 w1 w2) w2 g2 s' a2' b2') (c : Tide.Chg S2 w1 w2) (hg : s'.ok j') : BothS w0 w2 (Tide.Plus S1 w w1) (Tide.Plus S2 w1 w2) g1 g2 a1 b1 a2' b2' s' j' :=
  ⟨h.q.chg c (fun b h1 h2 => h.two.dis b h1 h2), b, h.two.right c, hg⟩
end
theorem pairS_made {w w0 w1 w2 : World} {g1 g2 : Nat} {a1 b1 a2 b2 : Value} {s : Tide.Stb} (hb0 : Below w.heap.size w w0) (h1 : StbAt 94 101 (Tide.Plus (fun _ => False) w0 w1) w1 g1 s a1 b1) (hb1 : Below w0.heap.size w0 w1)
    (h2 : StbAt 99 104 (Tide.Plus (fun _ => False) w1 w2) w2 g2 s a2 b2) (hb2 : Below w1.heap.size w1 w2) (hs : s.ok 0) : PairS w w2 g1 g2 0 := by
  refine ⟨_, _, _, _, _, _, s, h1.below hb2, h2, ⟨?_, ?_, ?_, (hb0.trans (hb1.mono hb0.size)).trans (hb2.mono (Nat.le_trans hb0.size hb1.size))⟩, hs⟩
  · intro b h3 h4
    rcases h3 with h3 | h3
    · exact h3
    · rcases h4 with h4 | h4
      · exact h4
      · omega
  · intro b h3
    have := hb0.size; have := hb2.size
    rcases h3 with h3 | h3
    · exact h3.elim
    · omega
  · intro b h3
    have := hb0.size; have := hb1.size
    rcases h3 with h3 | h3
    · exact h3.elim
    · omega
theorem stb_keep8 {W w1 : World} {x y : Nat} {a b c d e f g h : Value} (hb : Below W.heap.size W w1) (h1 : x < W.heap.size) (h2 : y < W.heap.size)
    (k : W.cell? ⟨x, 0, none⟩ = some a ∧ W.cell? ⟨x, 1, none⟩ = some b ∧ W.cell? ⟨x, 2, none⟩ = some c ∧ W.cell? ⟨x, 3, none⟩ = some d ∧ W.cell? ⟨y, 0, none⟩ = some e ∧ W.cell? ⟨y, 1, none⟩ = some f ∧ W.cell? ⟨y, 2, none⟩ = some g ∧ W.cell? ⟨y, 3, none⟩ = some h) :
    w1.cell? ⟨x, 0, none⟩ = some a ∧ w1.cell? ⟨x, 1, none⟩ = some b ∧ w1.cell? ⟨x, 2, none⟩ = some c ∧ w1.cell? ⟨x, 3, none⟩ = some d ∧ w1.cell? ⟨y, 0, none⟩ = some e ∧ w1.cell? ⟨y, 1, none⟩ = some f ∧ w1.cell? ⟨y, 2, none⟩ = some g ∧ w1.cell? ⟨y, 3, none⟩ = some h := by
  obtain ⟨k0, k1, k2, k3, k4, k5, k6, k7⟩ := k
  exact ⟨(hb.cell h1).trans k0, (hb.cell h1).trans k1, (hb.cell h1).trans k2, (hb.cell h1).trans k3, (hb.cell h2).trans k4, (hb.cell h2).trans k5, (hb.cell h2).trans k6, (hb.cell h2).trans k7⟩
set_option maxRecDepth 100000 in
set_option maxHeartbeats 12800000 in
theorem stablePlays_walk (u0 u1 u2 u3 d0 d1 d2 d3 : Int) (v : Value) (l : List (List Int)) (w : World) (hl : ArgRows w 3 v l) :
    Calls Try.prog 6 #[.agg #[.int .i64 u0, .int .i64 u1, .int .i64 u2, .int .i64 u3], .agg #[.int .i64 d0, .int .i64 d1, .int .i64 d2, .int .i64 d3], v] w fun e w' => e = .returned (.bool true) ∧ Below w.heap.size w w' := by
  obtain ⟨A, cap, rfl, hcap, hmax, hrows, hA⟩ := hl
  have HA := Lib.hid hA; have HR := Lib.hid hrows
  clear hA hrows hcap hmax
  have hb0 : Below w.heap.size w ((w.alloc (.cells #[.int .i64 u0, .int .i64 u1, .int .i64 u2, .int .i64 u3] 52)).alloc (.cells #[.int .i64 d0, .int .i64 d1, .int .i64 d2, .int .i64 d3] 52)) := ((Below.refl _ _).alloc (Nat.le_refl _) _).alloc (by simp) _
  have hA1 := (Tide.At.made w 52 #[.int .i64 u0, .int .i64 u1, .int .i64 u2, .int .i64 u3]).alloc (.cells #[.int .i64 d0, .int .i64 d1, .int .i64 d2, .int .i64 d3] 52)
  have hA2 := Tide.At.made (w.alloc (.cells #[.int .i64 u0, .int .i64 u1, .int .i64 u2, .int .i64 u3] 52)) 52 #[.int .i64 d0, .int .i64 d1, .int .i64 d2, .int .i64 d3]
  have z1 : (w.alloc (.cells #[.int .i64 u0, .int .i64 u1, .int .i64 u2, .int .i64 u3] 52)).heap.size = w.heap.size + 1 := by simp
  rw [z1] at hA2
  have H0 := Lib.hid hb0; have HA1 := Lib.hid hA1; have HA2 := Lib.hid hA2
  clear hb0 hA1 hA2 z1
  by_cases hlen : 100 < l.length
  · have hbig : (100 : Int) < (l.length : Int) := by omega
    go_enter Try.func6, Try.ntmps6
    go_wp2_with fail
    go_ret
    exact ⟨rfl, H0.out⟩
  have hsm : (l.length : Int) ≤ 100 := by omega
  clear hlen
  go_enter Try.func6, Try.ntmps6
  go_upto_region 3 with fail
  generalize (w.alloc (.cells #[.int .i64 u0, .int .i64 u1, .int .i64 u2, .int .i64 u3] 52)).alloc (.cells #[.int .i64 d0, .int .i64 d1, .int .i64 d2, .int .i64 d3] 52) = W at H0 HA1 HA2 ⊢
  have y := And.intro (HA1.out.drew.here (i := 0) rfl) (And.intro (HA1.out.drew.here (i := 1) rfl) (And.intro (HA1.out.drew.here (i := 2) rfl) (And.intro (HA1.out.drew.here (i := 3) rfl) (And.intro (HA2.out.drew.here (i := 0) rfl) (And.intro (HA2.out.drew.here (i := 1) rfl) (And.intro (HA2.out.drew.here (i := 2) rfl) (HA2.out.drew.here (i := 3) rfl)))))))
  have lt1 : w.heap.size < W.drew.heap.size := HA1.out.inside
  have lt2 : w.heap.size + 1 < W.drew.heap.size := HA2.out.inside
  go_wp2_with fail
  go_region_held3 (fun w' => w'.cell? ⟨w.heap.size, 0, none⟩ = some (.int .i64 u0) ∧ w'.cell? ⟨w.heap.size, 1, none⟩ = some (.int .i64 u1) ∧ w'.cell? ⟨w.heap.size, 2, none⟩ = some (.int .i64 u2) ∧ w'.cell? ⟨w.heap.size, 3, none⟩ = some (.int .i64 u3) ∧ w'.cell? ⟨w.heap.size + 1, 0, none⟩ = some (.int .i64 d0) ∧ w'.cell? ⟨w.heap.size + 1, 1, none⟩ = some (.int .i64 d1) ∧ w'.cell? ⟨w.heap.size + 1, 2, none⟩ = some (.int .i64 d2) ∧ w'.cell? ⟨w.heap.size + 1, 3, none⟩ = some (.int .i64 d3)) (first | exact y2 | exact y1 | exact y | go_keep) (first | (go_at_call 28; refine (stbNew ⟨u0, u1, u2, u3⟩ ⟨d0, d1, d2, d3⟩ _).mono ?_; rintro e w1 ⟨g1, rfl, h1, hb1⟩; have y1 := stb_keep8 hb1 lt1 lt2 y; have lt3 := Nat.lt_of_lt_of_le lt1 hb1.size; have lt4 := Nat.lt_of_lt_of_le lt2 hb1.size) | (go_at_call 29; refine (calNew ⟨u0, u1, u2, u3⟩ ⟨d0, d1, d2, d3⟩ _).mono ?_; rintro e w2 ⟨g2, rfl, h2, hb2⟩; have y2 := stb_keep8 hb2 lt3 lt4 y1))
  all_goals
    have hS := Lib.hid (pairS_made H0.out.drew h1 hb1 h2 hb2 (newStb_ok _ _))
    clear h1 hb1 h2 hb2 y y1 y2 lt1 lt2 lt3 lt4
    go_wp2_with fail
    go_loopg [26] l.length (fun k i wr => ∃ j : Nat, i = .int .i64 j ∧ j ≤ l.length ∧ k = l.length - j ∧ Hid (PairS w wr g1 g2 j))
    case atStart => exact ⟨0, rfl, by omega, by omega, hS⟩
    case round =>
      clear hS
      obtain ⟨j, rfl, hj, hk, HP⟩ := hrel
      obtain ⟨S1, S2, a1, b1, a2, b2, s, hB⟩ := HP.out
      have HK := Lib.hid hk
      clear HP
      by_cases hlt : j < l.length
      · obtain ⟨b, off, x, y, z, rfl, hx, hy, hz⟩ := wish_row HA.out HR.out hB.two.below hlt
        have hj0 : (0 : Int) ≤ (j : Int) := by omega
        have hj1 : (j : Int) < (l.length : Int) := by omega
        have HB := Lib.hid (hB.alloc (.cells #[.int .i64 x, .int .i64 y, .int .i64 z] 59))
        have HX := Lib.hid (Tide.At.made wr 59 #[.int .i64 x, .int .i64 y, .int .i64 z])
        have HL1 := Lib.hid (fun (b : Nat) (hb : S1 b) => (hB.two.one b hb).2)
        clear hB hk
        go_wp2_with fail
        refine (stbSettle S1 g1 s a1 b1 x y z _ j HB.out.q HB.out.ok (by omega)).mono ?_
        rintro e w3 ⟨rfl, ⟨a1', b1', h3⟩, c3⟩
        have X3 := HX.out.stays c3 HL1.out
        have x0 := X3.here (i := 0) rfl; have x1 := X3.here (i := 1) rfl; have x2 := X3.here (i := 2) rfl
        have H3 := Lib.hid (HB.out.left h3 c3)
        clear hx hy hz h3 c3 X3
        go_wp2_with fail
        refine (calSettle S2 g2 s a2 b2 x y z _ j H3.out.b HB.out.ok (by omega)).mono ?_
        rintro e w4 ⟨rfl, ⟨a2', b2', h4⟩, c4⟩
        have HN := Lib.hid (show PairS w w4 g1 g2 (j + 1) from ⟨_, _, _, _, _, _, _, H3.out.right h4 c4 (settle_ok HB.out.ok)⟩)
        clear h4 c4 x0 x1 x2
        go_wp2_with fail
        go_roundg (l.length - (j + 1))
        case measure => have := HK.out; omega
        case rel => exact ⟨j + 1, by go_num, by omega, rfl, HN⟩
      · have HF := Lib.hid hB.two.below
        clear hB hk
        go_wp2_with fail
        go_ret
        exact ⟨rfl, HF.out⟩
end Go.Proofs.Ytgkbdoecpbepbaa
