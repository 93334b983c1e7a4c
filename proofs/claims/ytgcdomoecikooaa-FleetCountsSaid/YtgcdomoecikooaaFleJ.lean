/- The walk of FleetEven. -/
import Derived.Test.YtgcdomoecikooaaFleI
namespace Go.Proofs.Ytgcdomoecikooaa
open Go.RowKit
set_option linter.unusedVariables false
/-- what is there behind a run: the fleet alone has been written, in new blocks -/
structure FleSolo (T : TypeId) (w0 w : World) (S : Nat → Prop) (g : Nat) (v : Value) (l : List Tide.Pod) (last most : Int) : Prop where
  fle : FAt T S w g v l last most
  own : ∀ b, S b → w0.heap.size ≤ b
  below : Below w0.heap.size w0 w
  crew : Tide.Crewed l last most
section
variable {T : TypeId} {w0 w w' : World} {S : Nat → Prop} {g : Nat} {v v' : Value} {l l' : List Tide.Pod} {last last' most : Int}
theorem FleSolo.plus (h : FleSolo T w0 w S g v l last most) (hb : FAt T (Tide.Plus S w w') w' g v' l' last' most) (hc : Tide.Chg S w w') (cr : Tide.Crewed l' last' most) : FleSolo T w0 w' (Tide.Plus S w w') g v' l' last' most :=
  ⟨hb, fun b hb => by rcases hb with hb | hb; exact h.own b hb; exact Nat.le_trans h.below.size hb.1, h.below.trans (hc.below h.below.size fun b hb hS => by have := h.own b hS; omega), cr⟩
theorem FleSolo.same (h : FleSolo T w0 w S g v l last most) (hb : FAt T S w' g v' l' last' most) (hc : Tide.Chg S w w') (cr : Tide.Crewed l' last' most) : FleSolo T w0 w' S g v' l' last' most :=
  ⟨hb, h.own, h.below.trans (hc.below h.below.size fun b hb hS => by have := h.own b hS; omega), cr⟩
theorem FleSolo.read (h : FleSolo T w0 w S g v l last most) (hb : Below w.heap.size w w') : FleSolo T w0 w' S g v l last most :=
  ⟨h.fle.below hb, h.own, h.below.trans (hb.mono h.below.size), h.crew⟩
theorem FleSolo.alloc (h : FleSolo T w0 w S g v l last most) (o : Obj) : FleSolo T w0 (w.alloc o) S g v l last most := h.read ((Below.refl _ w).alloc (Nat.le_refl _) o)
theorem FleSolo.made (h : FAt T (Tide.Plus (fun _ => False) w w') w' g (.slice none 0 0) [] 0 most) (hb : Below w.heap.size w w') : FleSolo T w w' (Tide.Plus (fun _ => False) w w') g (.slice none 0 0) [] 0 most :=
  ⟨h, fun b hb => by rcases hb with hb | hb; exact hb.elim; exact hb.1, hb, Tide.Crewed.nil most⟩
theorem FleSolo.old {w00 : World} (h : FleSolo T w0 w S g v l last most) (hb : Below w00.heap.size w00 w0) : FleSolo T w00 w S g v l last most :=
  ⟨h.fle, fun b hs => Nat.le_trans hb.size (h.own b hs), hb.trans (h.below.mono hb.size), h.crew⟩
end
theorem mostOf_in (n : Int) : 1 ≤ mostOf n ∧ mostOf n ≤ 100 := by unfold mostOf; omega
theorem loads_ok {l : List Tide.Pod} {last n : Int} (h : Tide.Crewed l last (mostOf n)) : ∀ p ∈ l, 0 ≤ p.load ∧ p.load ≤ 1000 := fun p hp => by
  have := h.loads p hp; have := mostOf_in n; omega
def FleRun (T : TypeId) (w0 w : World) (g : Nat) (most : Int) (j : Nat) : Prop := ∃ S v l last, FleSolo T w0 w S g v l last most ∧ last ≤ 50 * j ∧ l.length ≤ 50 * j
theorem order_row {w wr : World} {A : Option Addr} {l : List (List Int)} {k : Nat} (hA : RowsAt w 2 A l) (hr : ∀ row ∈ l, row.length = 2 ∧ ∀ x ∈ row, -9223372036854775808 ≤ x ∧ x ≤ 9223372036854775807) (hb : Below w.heap.size w wr) (hk : k < l.length) :
    ∃ b off x y, A = some ⟨b, off, none⟩ ∧ wr.cell? ⟨b, off + k * 2, none⟩ = some (.int .i64 x) ∧ wr.cell? ⟨b, off + k * 2 + 1, none⟩ = some (.int .i64 y) := by
  obtain ⟨b, off, e, hlt, hc⟩ := hA (by omega)
  have hrow : l[k]? = some l[k] := List.getElem?_eq_getElem hk
  have hlen := (hr _ (List.getElem_mem hk)).1
  obtain ⟨x, y, hxyz⟩ : ∃ x y, l[k] = [x, y] := by
    match l[k], hlen with
    | [x, y], _ => exact ⟨x, y, rfl⟩
  rw [hxyz] at hrow
  exact ⟨b, off, x, y, e, (hb.cell (p := ⟨b, off + k * 2, none⟩) hlt).trans (hc k _ 0 x hrow rfl), (hb.cell (p := ⟨b, off + k * 2 + 1, none⟩) hlt).trans (hc k _ 1 y hrow rfl)⟩
theorem even_facts : Tide.scaleLst [] 0 1 = [⟨1, 1, 0⟩] ∧ Tide.scaleLast [] 0 1 = 1 ∧ Tide.liveN [⟨1, 1, 0⟩] = 1 ∧ Tide.giveErr [⟨1, 1, 0⟩] (mostOf 2) = 4 := by decide +kernel
set_option maxRecDepth 100000 in
set_option maxHeartbeats 12800000 in
theorem fleetEven_walk (n : Int) (hwf0 : (Lit.int .i64 n).wf = true) (v : Value) (l : List (List Int)) (w : World) (hl : ArgRows w 2 v l) :
    Calls Try.prog 7 #[.int .i64 n, v] w fun e w' => e = .returned (.bool true) ∧ Below w.heap.size w w' := by
  obtain ⟨A, cap, rfl, hcap, hmax, hrows, hA⟩ := hl
  clear hwf0
  have HA := Lib.hid hA; have HR := Lib.hid hrows
  clear hA hrows hcap hmax
  obtain ⟨f1, f2, f3, f4⟩ := even_facts
  have F1 := Lib.hid f1; have F2 := Lib.hid f2; have F3 := Lib.hid f3; have F4 := Lib.hid f4
  clear f1 f2 f3 f4
  go_enter Try.func7, Try.ntmps7
  go_wp2_with fail
  refine (fleNew 2 _).mono ?_
  rintro e w1 ⟨g1, rfl, h1, hb1⟩
  have H1 := Lib.hid (FleSolo.made h1 hb1)
  clear h1 hb1
  go_wp2_with fail
  refine (fleScale _ g1 _ [] 0 _ 1 _ H1.out.fle H1.out.crew (by decide) (by decide) (by decide)).mono ?_
  rintro e w2 ⟨rfl, ⟨v2, h2⟩, c2⟩
  have H2 := Lib.hid (H1.out.plus h2 c2 (H1.out.crew.scale (by decide) 1).1)
  rw [F1.out, F2.out] at H2
  clear h2 c2 H1
  go_wp2_with fail
  refine (fleCount _ g1 _ _ _ _ _ H2.out.fle).mono ?_
  rintro e w3 ⟨rfl, hb3⟩
  have H3 := Lib.hid (H2.out.read hb3)
  rw [F3.out]
  clear hb3 H2
  go_wp2_with fail
  refine (fleGive _ g1 _ _ _ _ _ H3.out.fle (by decide) (fun p hp => (H3.out.crew.loads p hp).1)).mono ?_
  rintro e w4 ⟨rfl, ⟨v4, h4⟩, c4⟩
  have HB4 := Lib.hid (H3.out.same h4 c4 H3.out.crew.give.1).below
  rw [F4.out]
  clear h4 c4 H3 F1 F2 F3 F4
  by_cases hlen : 150 < l.length
  · have hbig : (150 : Int) < (l.length : Int) := by omega
    go_wp2_with fail
    go_ret
    exact ⟨rfl, HB4.out⟩
  have hsm : (l.length : Int) ≤ 150 := by omega
  have HSm := Lib.hid (show l.length ≤ 150 by omega)
  clear hlen
  go_wp2_with fail
  refine (fleNew n _).mono ?_
  rintro e w5 ⟨g, rfl, h5, hb5⟩
  have H0 := Lib.hid (show FleRun 88 w w5 g (mostOf n) 0 from ⟨_, _, _, _, (FleSolo.made h5 hb5).old HB4.out, by decide, by decide⟩)
  clear h5 hb5
  go_wp2_with fail
  go_loopw [38] (fun i wr => ∃ k : Nat, k ≤ l.length ∧ i = .int .i64 k ∧ Hid (FleRun 88 w wr g (mostOf n) k)) (fun i _ => l.length - (intOf i).toNat)
  case atStart => exact ⟨0, by omega, rfl, H0⟩
  case round =>
    clear H0
    obtain ⟨k, hk, rfl, H⟩ := hrel
    obtain ⟨S, v, L, last, hF0, hla0, hln0⟩ := H.out
    have HF0 := Lib.hid hF0; have HLa0 := Lib.hid hla0; have HLn0 := Lib.hid hln0
    clear hF0 H hla0 hln0
    by_cases hlt : k < l.length
    · obtain ⟨b, off, x, y, rfl, hx, hy⟩ := order_row HA.out HR.out HF0.out.below hlt
      have i0 : (0 : Int) ≤ (k : Int) := by omega
      have i1 : (k : Int) < (l.length : Int) := by omega
      have HKs := Lib.hid (show k ≤ 150 by have := HSm.out; omega)
      have HF1 := Lib.hid (HF0.out.alloc (.cells #[.int .i64 x, .int .i64 y] 61))
      have HEnd : ∀ w3, Hid (∃ S' v' l' last', FleSolo 88 w w3 S' g v' l' last' (mostOf n) ∧ last' ≤ 50 * (k + 1 : Nat) ∧ l'.length ≤ 50 * (k + 1)) → Hid (∃ S' v' l' last', FleSolo 88 w w3 S' g v' l' last' (mostOf n) ∧ last' ≤ 50 * (k + 1 : Nat) ∧ l'.length ≤ 50 * (k + 1)) := fun _ h => h
      clear HF0
      by_cases x0 : x = 0
      case' pos =>
        subst x0
        go_wp2_with fail
        refine (fleScale S g v L last _ y _ HF1.out.fle HF1.out.crew (by have := mostOf_in n; omega) (by have := HLn0.out; have := HKs.out; omega) (by have := HLa0.out; have := HKs.out; omega)).mono ?_
        rintro e w3 ⟨rfl, ⟨v3, h3⟩, c3⟩
        have sc := HF1.out.crew.scale (by have := mostOf_in n; omega) y
        have HN := HEnd _ (Lib.hid ⟨_, _, _, _, HF1.out.plus h3 c3 sc.1, by have := sc.2.2.2.2; have := HLa0.out; omega, by have := sc.2.2.2.1; have := HLn0.out; omega⟩)
        clear h3 c3 hx hy HF1 sc
        go_wp2_with fail
      case' neg =>
        by_cases x1 : x = 1
        case' pos =>
          subst x1
          clear x0
          go_wp2_with fail
          refine (fleStart S g v L last _ y _ HF1.out.fle).mono ?_
          rintro e w3 ⟨rfl, ⟨v3, h3⟩, c3⟩
          have sc := HF1.out.crew.turn y 1 2 (.inl ⟨rfl, rfl⟩)
          have HN := HEnd _ (Lib.hid ⟨_, _, _, _, HF1.out.same h3 c3 sc.1, by have := HLa0.out; omega, by have := sc.2.2; have := HLn0.out; omega⟩)
          clear h3 c3 hx hy HF1 sc
          go_wp2_with fail
        case' neg =>
          by_cases x2 : x = 2
          case' pos =>
            subst x2
            clear x0 x1
            go_wp2_with fail
            refine (fleReady S g v L last _ y _ HF1.out.fle).mono ?_
            rintro e w3 ⟨rfl, ⟨v3, h3⟩, c3⟩
            have sc := HF1.out.crew.turn y 2 3 (.inr ⟨rfl, rfl⟩)
            have HN := HEnd _ (Lib.hid ⟨_, _, _, _, HF1.out.same h3 c3 sc.1, by have := HLa0.out; omega, by have := sc.2.2; have := HLn0.out; omega⟩)
            clear h3 c3 hx hy HF1 sc
            go_wp2_with fail
          case' neg =>
            by_cases x3 : x = 3
            case' pos =>
              subst x3
              clear x0 x1 x2
              go_wp2_with fail
              refine (fleCrash S g v L last _ y _ HF1.out.fle).mono ?_
              rintro e w3 ⟨rfl, ⟨v3, h3⟩, c3⟩
              have sc := HF1.out.crew.crash y
              have HN := HEnd _ (Lib.hid ⟨_, _, _, _, HF1.out.same h3 c3 sc.1, by have := HLa0.out; omega, by have := sc.2.2; have := HLn0.out; omega⟩)
              clear h3 c3 hx hy HF1 sc
              go_wp2_with fail
            case' neg =>
              by_cases x5 : x = 5
              case' pos =>
                subst x5
                clear x0 x1 x2 x3
                go_wp2_with fail
                refine (fleDone S g v L last _ y _ HF1.out.fle (loads_ok HF1.out.crew)).mono ?_
                rintro e w3 ⟨rfl, ⟨v3, h3⟩, c3⟩
                have sc := HF1.out.crew.done y
                have HN := HEnd _ (Lib.hid ⟨_, _, _, _, HF1.out.same h3 c3 sc.1, by have := HLa0.out; omega, by have := sc.2.2; have := HLn0.out; omega⟩)
                clear h3 c3 hx hy HF1 sc
                go_wp2_with fail
              case' neg =>
                have e0 : (x == 0) = false := by simp [x0]
                have e1 : (x == 1) = false := by simp [x1]
                have e2 : (x == 2) = false := by simp [x2]
                have e3 : (x == 3) = false := by simp [x3]
                have e5 : (x == 5) = false := by simp [x5]
                clear x0 x1 x2 x3 x5
                go_wp2_with fail
                have HN := HEnd _ (Lib.hid ⟨_, _, _, _, HF1.out, by have := HLa0.out; omega, by have := HLn0.out; omega⟩)
                clear hx hy HF1 e0 e1 e2 e3 e5
      all_goals
        obtain ⟨S', v', L', last', hP, hla, hln⟩ := HN.out
        have HP := Lib.hid hP; have HLa := Lib.hid hla; have HLn := Lib.hid hln
        clear hP HN HEnd hla hln HLa0 HLn0
        refine (fleAll S' g v' L' last' _ _ HP.out.fle).mono ?_
        rintro e w4 ⟨u4, rfl, o4, b4⟩
        have HP4 := Lib.hid (HP.out.read b4)
        have O4 := Lib.hid o4
        have HSS := Lib.hid (fun (b : Nat) (hb : S' b) => HP.out.fle.lim b hb)
        have HW4 := Lib.hid b4.size
        clear b4 HP
        obtain ⟨A4, cap4, rfl, _, _, hA4⟩ := o4.slice
        have HA4 := Lib.hid hA4
        clear o4 hA4
        go_upto_region 24 with fail
        have HX := Lib.hid (Tide.At.made w4 58 #[.slice A4 L'.length cap4])
        have HP5 := Lib.hid (HP4.out.alloc (.cells #[.slice A4 L'.length cap4] 58))
        go_wp2_with fail
        refine (fleGive S' g v' L' last' _ _ HP5.out.fle (by have := mostOf_in n; omega) (fun p hp => (HP5.out.crew.loads p hp).1)).mono ?_
        rintro e w5 ⟨rfl, ⟨v5, h5⟩, c5⟩
        have HP6 := Lib.hid (HP5.out.same h5 c5 HP5.out.crew.give.1)
        have HLen := Lib.hid (HP5.out.crew.give.2.2)
        have O5 := Lib.hid ((O4.out.alloc (.cells #[.slice A4 L'.length cap4] 58)).chg c5 (fun b h1 h2 => by have := HSS.out b h2; omega))
        have HX5 := Lib.hid (HX.out.chg c5 (fun h2 => by have := HSS.out _ h2; have := HW4.out; omega))
        clear h5 c5 HP4 HX O4
        cases hg : Tide.giveAt L' (mostOf n) with
        | none =>
          have e1 : Tide.giveErr L' (mostOf n) = 4 := by unfold Tide.giveErr; rw [hg]
          rw [e1]
          have HN := Lib.hid (show FleRun 88 w _ g (mostOf n) (k + 1) from ⟨_, _, _, _, HP6.out.alloc (.cells #[.int .i64 (Tide.giveNum L' (mostOf n))] 3), HLa.out, by have := HLen.out; have := HLn.out; omega⟩)
          clear hg e1
          go_wp2_with fail
          go_roundw
          case rel => exact ⟨k + 1, by omega, by go_num, HN⟩
          case measure => simp [intOf]; omega
        | some j =>
          obtain ⟨p, hp, hst, _, hno⟩ := Tide.give_least hg
          have e1 : Tide.giveErr L' (mostOf n) = 0 := by unfold Tide.giveErr; rw [hg]
          have e2 : Tide.giveNum L' (mostOf n) = p.id := by unfold Tide.giveNum; rw [hg]; simp only [hp]; rfl
          rw [e1, e2]
          have HNo := Lib.hid hno; have HPj := Lib.hid hp; have HSt := Lib.hid hst
          have HFj := Lib.hid (Tide.findP_self HP5.out.crew.up hp)
          have hjl := Tide.get_lt hp
          have j0 : (0 : Int) ≤ (j : Int) := by omega
          have j1 : (j : Int) < (L'.length : Int) := by omega
          have HP7 := Lib.hid (HP6.out.alloc (.cells #[.int .i64 p.id] 3))
          have O7 := Lib.hid (O5.out.alloc (.cells #[.int .i64 p.id] 3))
          have HX7 := Lib.hid (HX5.out.alloc (.cells #[.int .i64 p.id] 3))
          have HI7 := Lib.hid (Tide.At.made w5 3 #[.int .i64 p.id])
          have HW5 := Lib.hid (show w4.heap.size < w5.heap.size from HX5.out.inside)
          clear hg hno hp hst e1 e2 HP6 O5
          have xw := HX7.out.here (i := 0) rfl
          have hw5 : w4.heap.size < w5.heap.size := HW5.out
          go_wp2_with fail
          refine (fleE_index w5.heap.size (Tide.podIs p.id) L' _ _ (O7.out.list Tide.Pod.enc_length) (by have := HP5.out.fle.small; omega) (fun m W hW => evenIs p.id _ m W ((hW.cell (p := ⟨w5.heap.size, 0, none⟩) HI7.out.inside).trans (HI7.out.here (i := 0) rfl)))).mono ?_
          rintro e w7 ⟨rfl, hb7⟩
          have e3 : Tide.firstAt (Tide.podIs p.id) L' = some j := HFj.out
          rw [e3, idx_some]
          have HP8 := Lib.hid ((HP7.out.read hb7).alloc (.cells #[.int .i64 j] 3))
          have O8 := Lib.hid ((O7.out.below hb7 (Nat.le_refl _)).alloc (.cells #[.int .i64 j] 3))
          have HX8 := Lib.hid ((HX7.out.below hb7 HX7.out.inside).alloc (.cells #[.int .i64 j] 3))
          have HI8 := Lib.hid (Tide.At.made w7 3 #[.int .i64 j])
          have hw7 : w4.heap.size < w7.heap.size := (HX7.out.below hb7 HX7.out.inside).inside
          clear e3 hb7 xw HP7 O7 HX7 HI7
          obtain ⟨b8, rfl, hS8, hrow8⟩ := HA4.out (by omega)
          obtain ⟨A8, cap8, e8, _, _, hA8⟩ := O8.out.slice
          cases e8
          obtain ⟨b9, e9, _, hr9⟩ := hA8 (by omega)
          cases e9
          have HX80 := Lib.hid (HX8.out.here (i := 0) rfl)
          have HI80 := Lib.hid (HI8.out.here (i := 0) rfl)
          have HR0 := Lib.hid (hr9.cell (Tide.flat_get (j := 1) Tide.Pod.enc_length HPj.out rfl))
          have HR1 := Lib.hid (hr9.cell (Tide.flat_get (j := 2) Tide.Pod.enc_length HPj.out rfl))
          clear hA8 hr9 hrow8
          have x0 := HX80.out; have x1 := HI80.out; have x2 := HR0.out
          rw [HSt.out] at x2
          go_wp2_with fail
          refine (evenNone w4.heap.size w7.heap.size b8 cap4 j p L' _ _ (O8.out.list Tide.Pod.enc_length) (by have := HP5.out.fle.small; omega) HX80.out HI80.out hjl HR1.out HNo.out).mono ?_
          rintro e w9 ⟨rfl, hb9⟩
          have HN := Lib.hid (show FleRun 88 w w9 g (mostOf n) (k + 1) from ⟨_, _, _, _, HP8.out.read hb9, HLa.out, by have := HLen.out; have := HLn.out; omega⟩)
          clear hb9 x0 x1 x2 HP8 HX8 HI8 O8
          go_wp2_with fail
          go_roundw
          case rel => exact ⟨k + 1, by omega, by go_num, HN⟩
          case measure => simp [intOf]; omega
    · have HN := Lib.hid HF0.out.below
      clear HF0
      go_wp2_with fail
      go_ret
      exact ⟨rfl, HN.out⟩
end Go.Proofs.Ytgcdomoecikooaa
