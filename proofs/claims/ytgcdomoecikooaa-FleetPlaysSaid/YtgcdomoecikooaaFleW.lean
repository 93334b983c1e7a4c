/- The walk of FleetPlays. -/
import Derived.Test.YtgcdomoecikooaaFleP
import Derived.Deep.DeepCutAuto
import Derived.Deep.CutBlock
namespace Go.Proofs.Ytgcdomoecikooaa
open Go.RowKit
set_option linter.unusedVariables false
def NextF (w0 w : World) (g1 g2 : Nat) (most : Int) (j : Nat) : Prop := PairF w0 w g1 g2 most (j + 1)
theorem nextF {w0 w : World} {S1 S2 : Nat → Prop} {g1 g2 : Nat} {v1 v2 : Value} {l : List Tide.Pod} {last most : Int} {j : Nat} (h : BothF w0 w S1 S2 g1 g2 v1 v2 l last most) (h1 : last ≤ 50 * (j : Int) + 50) (h2 : l.length ≤ 50 * j + 50) : NextF w0 w g1 g2 most j :=
  ⟨S1, S2, v1, v2, l, last, h, by omega, by omega⟩
set_option maxRecDepth 100000 in
set_option maxHeartbeats 25600000 in
theorem fleetPlays_walk (n : Int) (hwf0 : (Lit.int .i64 n).wf = true) (v : Value) (l : List (List Int)) (w : World) (hl : ArgRows w 2 v l) :
    Calls Try.prog 8 #[.int .i64 n, v] w fun e w' => e = .returned (.bool true) ∧ Below w.heap.size w w' := by
  obtain ⟨A, cap, rfl, hcap, hmax, hrows, hA⟩ := hl
  clear hwf0
  have HA := Lib.hid hA; have HR := Lib.hid hrows
  clear hA hrows hcap hmax
  by_cases hlen : 150 < l.length
  · have hbig : (150 : Int) < (l.length : Int) := by omega
    go_enter Try.func8, Try.ntmps8
    go_wp2_with fail
    go_ret
    exact ⟨rfl, Below.refl _ _⟩
  have hsm : (l.length : Int) ≤ 150 := by omega
  have HSm := Lib.hid (show l.length ≤ 150 by omega)
  have HM := Lib.hid (mostOf_in n)
  clear hlen
  go_enter Try.func8, Try.ntmps8
  go_upto_region 3 with fail
  go_cut [5, 6] (fun s5 s6 wx => ∃ g1 g2 : Nat, s5 = .pointer (some ⟨g1, 0, none⟩) ∧ s6 = .pointer (some ⟨g2, 0, none⟩) ∧ Hid (PairF w wx g1 g2 (mostOf n) 0))
  case first =>
    by_cases h1 : n < 1
    · have HE := Lib.hid (show mostOf n = 1 by unfold mostOf; omega)
      have h2 : n ≤ 1 := by omega
      go_wp2_with fail
      refine (fleNew n _).mono ?_
      rintro e w1 ⟨g1, rfl, hq, hb⟩
      have hP := Lib.hid (pairF_made hq hb)
      rw [HE.out] at hP
      clear hq hb
      go_wp2_with fail
      go_meet
      exact ⟨_, _, rfl, rfl, by rw [HE.out]; exact hP⟩
    · by_cases h2 : 100 < n
      · have HE := Lib.hid (show mostOf n = 100 by unfold mostOf; omega)
        have h3 : 1 < n := by omega
        clear h1
        go_wp2_with fail
        refine (fleNew n _).mono ?_
        rintro e w1 ⟨g1, rfl, hq, hb⟩
        have hP := Lib.hid (pairF_made hq hb)
        rw [HE.out] at hP
        clear hq hb
        go_wp2_with fail
        go_meet
        exact ⟨_, _, rfl, rfl, by rw [HE.out]; exact hP⟩
      · have HE := Lib.hid (show mostOf n = n by unfold mostOf; omega)
        have h3 : 1 ≤ n := by omega
        have h4 : n ≤ 100 := by omega
        clear h1 h2
        go_wp2_with fail
        refine (fleNew n _).mono ?_
        rintro e w1 ⟨g1, rfl, hq, hb⟩
        have hP := Lib.hid (pairF_made hq hb)
        rw [HE.out] at hP
        clear hq hb
        go_wp2_with fail
        go_meet
        exact ⟨_, _, rfl, rfl, by rw [HE.out]; exact hP⟩
  case rest =>
  obtain ⟨g1, g2, rfl, rfl, hP⟩ := hcut
  generalize mostOf n = most at HM hP ⊢
  go_wp2_with fail
  go_loopg [30] l.length (fun k i wr => ∃ j : Nat, i = .int .i64 j ∧ j ≤ l.length ∧ k = l.length - j ∧ Hid (PairF w wr g1 g2 most j))
  case atStart => exact ⟨0, rfl, by omega, by omega, hP⟩
  case round =>
    clear hP
    obtain ⟨j, rfl, hj, hk, HP⟩ := hrel
    obtain ⟨S1, S2, v1, v2, L, last, hB, hla, hln⟩ := HP.out
    have HLa := Lib.hid hla; have HLn := Lib.hid hln
    have HK := Lib.hid hk
    clear HP hla hln
    by_cases hlt : j < l.length
    · obtain ⟨b, off, x, y, rfl, hx, hy⟩ := order_row HA.out HR.out hB.two.below hlt
      have hj0 : (0 : Int) ≤ (j : Int) := by omega
      have hj1 : (j : Int) < (l.length : Int) := by omega
      have HKs := Lib.hid (show j ≤ 150 by have := HSm.out; omega)
      have HB := Lib.hid (hB.alloc (.cells #[.int .i64 x, .int .i64 y] 61))
      have HX := Lib.hid (Tide.At.made wr 61 #[.int .i64 x, .int .i64 y])
      have HL1 := Lib.hid (fun (b : Nat) (hb : S1 b) => (hB.two.one b hb).2)
      have HL2 := Lib.hid (fun (b : Nat) (hb : S2 b) => (hB.two.two b hb).2)
      have HCr := Lib.hid hB.good
      clear hB hk
      go_upto_block 2 with fail
      go_cut [9] (fun s9 wx => s9 = .bool true ∧ Hid (NextF w wx g1 g2 most j))
      case first =>
        by_cases x0 : x = 0
        · subst x0
          have HB' := Lib.hid HB.out.drew
          have y1 := HX.out.drew.here (i := 1) rfl
          go_wp2_with fail
          go_region_held3 (fun w' => w'.cell? ⟨wr.heap.size, 1, none⟩ = some (.int .i64 y)) (first | exact y3 | exact y2 | go_keep) (first | (go_at_call 30; refine (fleScale S1 g1 v1 L last most y _ HB'.out.q HCr.out (by have := HM.out; omega) (by have := HLn.out; have := HKs.out; omega) (by have := HLa.out; have := HKs.out; omega)).mono ?_; rintro e w2 ⟨rfl, ⟨v1', q2⟩, c2⟩; have X2 := HX.out.drew.stays c2 HL1.out; have y2 := X2.here (i := 1) rfl) | (go_at_call 43; refine (creScale S2 g2 v2 L last most y _ (HB'.out.b.chg c2 (fun b hb h => HB'.out.two.dis b h hb)) HCr.out (by have := HM.out; omega) (by have := HLn.out; have := HKs.out; omega) (by have := HLa.out; have := HKs.out; omega)).mono ?_; rintro e w3 ⟨rfl, ⟨v2', b3⟩, c3⟩; have X3 := X2.stays c3 HL2.out; have y3 := X3.here (i := 1) rfl))
          all_goals
            have sc := HCr.out.scale (by have := HM.out; omega) y
            have HN := Lib.hid (nextF (j := j) ((HB'.out.left q2 c2).right b3 c3 sc.1) (by have := sc.2.2.2.2; have := HLa.out; omega) (by have := sc.2.2.2.1; have := HLn.out; omega))
            clear q2 c2 b3 c3 X2 X3 y2 y3 y1 hx hy sc
            go_wp2_with fail
            go_meet
            exact ⟨rfl, HN⟩
        by_cases x1 : x = 1
        · subst x1
          clear x0
          have HB' := Lib.hid HB.out.drew
          have y1 := HX.out.drew.here (i := 1) rfl
          go_wp2_with fail
          go_region_held3 (fun w' => w'.cell? ⟨wr.heap.size, 1, none⟩ = some (.int .i64 y)) (first | exact y3 | exact y2 | go_keep) (first | (go_at_call 32; refine (fleStart S1 g1 v1 L last most y _ HB'.out.q).mono ?_; rintro e w2 ⟨rfl, ⟨v1', q2⟩, c2⟩; have X2 := HX.out.drew.stays c2 HL1.out; have y2 := X2.here (i := 1) rfl) | (go_at_call 44; refine (creTurn S2 g2 v2 L last most y 1 _ (HB'.out.b.chg c2 (fun b hb h => HB'.out.two.dis b h hb)) (by decide) (by decide)).mono ?_; rintro e w3 ⟨rfl, ⟨v2', b3⟩, c3⟩; have X3 := X2.stays c3 HL2.out; have y3 := X3.here (i := 1) rfl))
          all_goals
            have sc := HCr.out.turn y 1 2 (.inl ⟨rfl, rfl⟩)
            have HN := Lib.hid (nextF (j := j) ((HB'.out.left q2.up c2).right b3 c3 sc.1) (by have := HLa.out; omega) (by have := sc.2.2; have := HLn.out; omega))
            clear q2 c2 b3 c3 X2 X3 y2 y3 y1 hx hy sc
            go_wp2_with fail
            go_meet
            exact ⟨rfl, HN⟩
        by_cases x2 : x = 2
        · subst x2
          clear x0 x1
          have HB' := Lib.hid HB.out.drew
          have y1 := HX.out.drew.here (i := 1) rfl
          go_wp2_with fail
          go_region_held3 (fun w' => w'.cell? ⟨wr.heap.size, 1, none⟩ = some (.int .i64 y)) (first | exact y3 | exact y2 | go_keep) (first | (go_at_call 33; refine (fleReady S1 g1 v1 L last most y _ HB'.out.q).mono ?_; rintro e w2 ⟨rfl, ⟨v1', q2⟩, c2⟩; have X2 := HX.out.drew.stays c2 HL1.out; have y2 := X2.here (i := 1) rfl) | (go_at_call 44; refine (creTurn S2 g2 v2 L last most y 2 _ (HB'.out.b.chg c2 (fun b hb h => HB'.out.two.dis b h hb)) (by decide) (by decide)).mono ?_; rintro e w3 ⟨rfl, ⟨v2', b3⟩, c3⟩; have X3 := X2.stays c3 HL2.out; have y3 := X3.here (i := 1) rfl))
          all_goals
            have sc := HCr.out.turn y 2 3 (.inr ⟨rfl, rfl⟩)
            have HN := Lib.hid (nextF (j := j) ((HB'.out.left q2.up c2).right b3 c3 sc.1) (by have := HLa.out; omega) (by have := sc.2.2; have := HLn.out; omega))
            clear q2 c2 b3 c3 X2 X3 y2 y3 y1 hx hy sc
            go_wp2_with fail
            go_meet
            exact ⟨rfl, HN⟩
        by_cases x3 : x = 3
        · subst x3
          clear x0 x1 x2
          go_wp2_with fail
          refine (fleCrash S1 g1 v1 L last most y _ HB.out.q).mono ?_
          rintro e w2 ⟨rfl, ⟨v1', q2⟩, c2⟩
          have X2 := HX.out.stays c2 HL1.out
          have y2 := X2.here (i := 1) rfl
          have H2 := Lib.hid (HB.out.left q2.up c2)
          clear hx hy q2 c2 X2
          go_wp2_with fail
          refine (creCrash S2 g2 v2 L last most y _ H2.out.b HCr.out.up).mono ?_
          rintro e w3 ⟨rfl, ⟨v2', b3⟩, c3⟩
          have sc := HCr.out.crash y
          have HN := Lib.hid (nextF (j := j) (H2.out.right b3 c3 sc.1) (by have := HLa.out; omega) (by have := sc.2.2; have := HLn.out; omega))
          clear b3 c3 y2 sc
          go_wp2_with fail
          go_meet
          exact ⟨rfl, HN⟩
        by_cases x4 : x = 4
        · subst x4
          clear x0 x1 x2 x3
          go_wp2_with fail
          refine (fleGive S1 g1 v1 L last most _ HB.out.q (by have := HM.out; omega) (fun p hp => (HCr.out.loads p hp).1)).mono ?_
          rintro e w2 ⟨rfl, ⟨v1', q2⟩, c2⟩
          have X2 := HX.out.stays c2 HL1.out
          have y2 := X2.here (i := 1) rfl
          have H2 := Lib.hid (HB.out.left q2.up c2)
          clear hx hy q2 c2 X2
          go_wp2_with fail
          refine (creGive S2 g2 v2 L last most _ H2.out.b (by have := HM.out; omega) (fun p hp => (HCr.out.loads p hp).1)).mono ?_
          rintro e w3 ⟨rfl, ⟨v2', b3⟩, c3⟩
          have sc := HCr.out.give
          have HN := Lib.hid (nextF (j := j) (H2.out.right b3 c3 sc.1) (by have := HLa.out; omega) (by have := sc.2.2; have := HLn.out; omega))
          clear b3 c3 y2 sc
          go_wp2_with fail
          go_meet
          exact ⟨rfl, HN⟩
        by_cases x5 : x = 5
        · subst x5
          clear x0 x1 x2 x3 x4
          have HB' := Lib.hid HB.out.drew
          have y1 := HX.out.drew.here (i := 1) rfl
          go_wp2_with fail
          go_region_held3 (fun w' => w'.cell? ⟨wr.heap.size, 1, none⟩ = some (.int .i64 y)) (first | exact y3 | exact y2 | go_keep) (first | (go_at_call 36; refine (fleDone S1 g1 v1 L last most y _ HB'.out.q (fun p hp => by have := HCr.out.loads p hp; have := HM.out; omega)).mono ?_; rintro e w2 ⟨rfl, ⟨v1', q2⟩, c2⟩; have X2 := HX.out.drew.stays c2 HL1.out; have y2 := X2.here (i := 1) rfl) | (go_at_call 47; refine (creDone S2 g2 v2 L last most y _ (HB'.out.b.chg c2 (fun b hb h => HB'.out.two.dis b h hb)) (fun p hp => by have := HCr.out.loads p hp; have := HM.out; omega) HCr.out.up).mono ?_; rintro e w3 ⟨rfl, ⟨v2', b3⟩, c3⟩; have X3 := X2.stays c3 HL2.out; have y3 := X3.here (i := 1) rfl))
          all_goals
            have sc := HCr.out.done y
            have HN := Lib.hid (nextF (j := j) ((HB'.out.left q2.up c2).right b3 c3 sc.1) (by have := HLa.out; omega) (by have := sc.2.2; have := HLn.out; omega))
            clear q2 c2 b3 c3 X2 X3 y2 y3 y1 hx hy sc
            go_wp2_with fail
            go_meet
            exact ⟨rfl, HN⟩
        have e0 : (x == 0) = false := by simp [x0]
        have e1 : (x == 1) = false := by simp [x1]
        have e2 : (x == 2) = false := by simp [x2]
        have e3 : (x == 3) = false := by simp [x3]
        have e4 : (x == 4) = false := by simp [x4]
        have e5 : (x == 5) = false := by simp [x5]
        clear x0 x1 x2 x3 x4 x5
        go_wp2_with fail
        go_meet
        exact ⟨rfl, Lib.hid (nextF (j := j) HB.out (by have := HLa.out; omega) (by have := HLn.out; omega))⟩
      case rest =>
        clear hx hy HB HX HL1 HL2 HCr HLa HLn
        obtain ⟨rfl, HN0⟩ := hcut
        obtain ⟨S1', S2', v1', v2', L', last', hB, hla, hln⟩ := HN0.out
        have HLa := Lib.hid hla; have HLn := Lib.hid hln
        have HN := Lib.hid hB
        clear HN0 hla hln
        have hc := hB.b.head.here (i := 0) rfl
        have hcd := hB.b.drew.head.here (i := 0) rfl
        clear hB
        go_wp2_with fail
        go_region_held3 (fun w' => w'.cell? ⟨g2, 0, none⟩ = some v2') (first | exact d6 | exact d5 | exact d2 | go_keep) (first | (go_at_call 35; refine (fleAll S1' g1 v1' L' last' most _ HN.out.drew.q).mono ?_; rintro e w2 ⟨u2, rfl, o2, b2⟩; have H2 := HN.out.drew.read b2; have d2 := H2.b.head.here (i := 0) rfl) | (go_at_call 48; refine (pod_equal _ _ L' _ (o2.list Tide.Pod.enc_length) (H2.b.row.list Tide.Pod.enc_length) (by have := HN.out.q.small; omega)).mono ?_; rintro e w5 ⟨rfl, c5⟩; have H5 := H2.chg0 c5; have d5 := H5.b.head.here (i := 0) rfl) | (go_at_call 31; refine (fleCount S1' g1 v1' L' last' most _ H5.q).mono ?_; rintro e w6 ⟨rfl, b6⟩; have H6 := H5.read b6; have d6 := H6.b.head.here (i := 0) rfl) | (go_at_call 49; refine (creCount S2' g2 v2' L' last' most _ H6.b).mono ?_; rintro e w7 ⟨rfl, rfl⟩))
        all_goals
          have HF := Lib.hid (show PairF w _ g1 g2 most (j + 1) from ⟨_, _, _, _, _, _, H6, HLa.out, HLn.out⟩)
          clear o2 b2 c5 b6 H2 H5 H6 d2 d5 d6 hc hcd
          go_wp2_with fail
          go_roundg (l.length - (j + 1))
          case measure => have := HK.out; omega
          case rel => exact ⟨j + 1, by go_num, by omega, rfl, HF⟩
    · have HN := Lib.hid hB.two.below
      clear hB hk
      go_wp2_with fail
      go_ret
      exact ⟨rfl, HN.out⟩
end Go.Proofs.Ytgcdomoecikooaa
