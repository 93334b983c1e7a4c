/- The walk of FleetCounts. -/
import Derived.Test.YtgcdomoecikooaaFleQ
import Derived.Deep.DeepCutAuto
import Derived.Deep.CutBlock
import Derived.Deep.RegionHeld3
import Derived.Deep.QuietTactic
import Derived.BigQuiet
namespace Go.Proofs.Ytgcdomoecikooaa
open Go.RowKit
set_option linter.unusedVariables false
theorem FleSolo.drew {T : TypeId} {w0 w : World} {S : Nat → Prop} {g : Nat} {v : Value} {l : List Tide.Pod} {last most : Int} (h : FleSolo T w0 w S g v l last most) : FleSolo T w0 w.drew S g v l last most := ⟨h.fle.drew, h.own, h.below.drew, h.crew⟩
def FleNext (T : TypeId) (w0 w : World) (g : Nat) (most : Int) (j : Nat) : Prop := FleRun T w0 w g most (j + 1)
theorem fleNext {T : TypeId} {w0 w : World} {S : Nat → Prop} {g : Nat} {v : Value} {l : List Tide.Pod} {last most : Int} {j : Nat} (h : FleSolo T w0 w S g v l last most) (h1 : last ≤ 50 * (j : Int) + 50) (h2 : l.length ≤ 50 * j + 50) : FleNext T w0 w g most j :=
  ⟨S, v, l, last, h, by omega, by omega⟩
theorem fleNext_drewN {T : TypeId} {w0 w : World} {g : Nat} {most : Int} {j : Nat} (h : FleNext T w0 w g most j) (n : Nat) : FleNext T w0 (w.drewN n) g most j := by
  obtain ⟨S, v, l, last, hs, h1, h2⟩ := h
  exact ⟨S, v, l, last, ⟨⟨hs.fle.head.drewN n, hs.fle.row.drewN n, hs.fle.own, hs.fle.small, hs.fle.lim⟩, hs.own, fle_drewN hs.below n, hs.crew⟩, h1, h2⟩
set_option maxHeartbeats 1600000 in
theorem fleScaleNo (g : Nat) (n : Int) (w : World) (hn : n < 0 ∨ 50 < n) : Calls Try.prog 30 #[.pointer (some ⟨g, 0, none⟩), .int .i64 n] w fun e w' => e = .returned (.int .i64 1) ∧ w' = w := by
  by_cases h1 : n < 0
  · go_enter Try.func30, Try.ntmps30
    go_wp2_with fail
    go_ret
    exact ⟨rfl, rfl⟩
  · have h2 : 50 < n := by omega
    have h1' : 0 ≤ n := by omega
    clear h1 hn
    go_enter Try.func30, Try.ntmps30
    go_wp2_with fail
    go_ret
    exact ⟨rfl, rfl⟩
theorem crash_ok {l : List Tide.Pod} {id : Int} (h : ∀ p ∈ l, 0 ≤ p.load ∧ p.load ≤ 1000) : (Tide.crashErr l id = 0 ∨ Tide.crashErr l id = 4) ∧ 0 ≤ Tide.crashNum l id ∧ Tide.crashNum l id ≤ 1000 := by
  unfold Tide.crashErr Tide.crashNum
  cases hf : Tide.findP l id with
  | none => exact ⟨.inr rfl, Int.le_refl _, by simp⟩
  | some i =>
    obtain ⟨p, hp, _⟩ := Tide.findP_some hf
    have := h p (List.mem_of_getElem? hp)
    exact ⟨.inl rfl, by simp only [Tide.loadAt, hp]; exact this⟩
theorem give_01 (l : List Tide.Pod) (most : Int) : Tide.giveErr l most = 0 ∨ Tide.giveErr l most = 4 := by
  unfold Tide.giveErr; cases Tide.giveAt l most with
  | none => exact .inr rfl
  | some _ => exact .inl rfl
theorem done_01 (l : List Tide.Pod) (id : Int) : Tide.podDoneErr l id = 0 ∨ Tide.podDoneErr l id = 4 ∨ Tide.podDoneErr l id = 7 := by
  unfold Tide.podDoneErr; cases Tide.findP l id with
  | none => exact .inr (.inl rfl)
  | some i => simp only; by_cases h : Tide.loadAt l i = 0 <;> simp [h]
set_option maxRecDepth 100000 in
set_option maxHeartbeats 25600000 in
theorem fleetCounts_walk (n : Int) (hwf0 : (Lit.int .i64 n).wf = true) (v : Value) (l : List (List Int)) (w : World) (hl : ArgRows w 2 v l) :
    Calls Try.prog 6 #[.int .i64 n, v] w fun e w' => e = .returned (.bool true) ∧ Below w.heap.size w w' := by
  obtain ⟨A, cap, rfl, hcap, hmax, hrows, hA⟩ := hl
  clear hwf0
  have HA := Lib.hid hA; have HR := Lib.hid hrows
  clear hA hrows hcap hmax
  obtain ⟨f1, f2, f3, f4, f5, f6, f7, f8, f9, f10, f11⟩ := counts_facts
  obtain ⟨d1, d2, d3, d4, d5⟩ := counts_facts2
  have F1 := Lib.hid f1; have F2 := Lib.hid f2; have F3 := Lib.hid f3; have F4 := Lib.hid f4; have F5 := Lib.hid f5; have F6 := Lib.hid f6; have F7 := Lib.hid f7; have F8 := Lib.hid f8; have F9 := Lib.hid f9; have F10 := Lib.hid f10; have F11 := Lib.hid f11
  have D1 := Lib.hid d1; have D2 := Lib.hid d2; have D3 := Lib.hid d3; have D4 := Lib.hid d4; have D5 := Lib.hid d5
  clear f1 f2 f3 f4 f5 f6 f7 f8 f9 f10 f11 d1 d2 d3 d4 d5
  go_enter Try.func6, Try.ntmps6
  go_wp2_with fail
  refine (fleNew 1 _).mono ?_
  rintro e w1 ⟨g1, rfl, h1, hb1⟩
  have H1 := Lib.hid (FleSolo.made h1 hb1)
  clear h1 hb1
  go_wp2_with fail
  refine (fleScale _ g1 _ [] 0 _ 2 _ H1.out.fle H1.out.crew (by decide) (by decide) (by decide)).mono ?_
  rintro e w2 ⟨rfl, ⟨v2, h2⟩, c2⟩
  have H2 := Lib.hid (H1.out.plus h2 c2 (H1.out.crew.scale (by decide) 2).1)
  rw [F1.out]
  rw [F2.out, F3.out] at H2
  clear h2 c2 H1
  go_wp2_with fail
  refine (fleCount _ g1 _ _ _ _ _ H2.out.fle).mono ?_
  rintro e w3 ⟨rfl, hb3⟩
  have H3 := Lib.hid (H2.out.read hb3)
  rw [F4.out]
  clear hb3 H2
  go_wp2_with fail
  refine (fleStart _ g1 _ _ _ _ 1 _ H3.out.fle).mono ?_
  rintro e w4 ⟨rfl, ⟨v4, h4⟩, c4⟩
  have H4 := Lib.hid (H3.out.same h4 c4 (H3.out.crew.turn 1 1 2 (.inl ⟨rfl, rfl⟩)).1)
  rw [F5.out]
  rw [F6.out] at H4
  clear h4 c4 H3
  go_wp2_with fail
  refine (fleReady _ g1 _ _ _ _ 1 _ H4.out.fle).mono ?_
  rintro e w5 ⟨rfl, ⟨v5, h5⟩, c5⟩
  have H5 := Lib.hid (H4.out.same h5 c5 (H4.out.crew.turn 1 2 3 (.inr ⟨rfl, rfl⟩)).1)
  rw [F7.out]
  rw [F8.out] at H5
  clear h5 c5 H4
  go_wp2_with fail
  refine (fleGive _ g1 _ _ _ _ _ H5.out.fle (by decide) (fun p hp => (H5.out.crew.loads p hp).1)).mono ?_
  rintro e w6 ⟨rfl, ⟨v6, h6⟩, c6⟩
  have H6 := Lib.hid (H5.out.same h6 c6 H5.out.crew.give.1)
  rw [F9.out, F10.out]
  rw [F11.out] at H6
  clear h6 c6 H5
  go_wp2_with fail
  refine (fleScale _ g1 _ _ _ _ 0 _ H6.out.fle H6.out.crew (by decide) (by decide) (by decide)).mono ?_
  rintro e w7 ⟨rfl, ⟨v7, h7⟩, c7⟩
  have H7 := Lib.hid (H6.out.plus h7 c7 (H6.out.crew.scale (by decide) 0).1)
  rw [D1.out]
  rw [D2.out, D3.out] at H7
  clear h7 c7 H6
  go_wp2_with fail
  refine (fleAll _ g1 _ _ _ _ _ H7.out.fle).mono ?_
  rintro e w8 ⟨u8, rfl, o8, b8⟩
  obtain ⟨A8, cap8, rfl, _, _, _⟩ := o8.slice
  have H8 := Lib.hid (H7.out.read b8)
  clear o8 b8 H7
  simp only [List.length_cons, List.length_nil]
  go_wp2_with fail
  refine (fleDone _ g1 _ _ _ _ 1 _ H8.out.fle (by decide)).mono ?_
  rintro e w9 ⟨rfl, ⟨v9, h9⟩, c9⟩
  have H9 := Lib.hid (H8.out.same h9 c9 (H8.out.crew.done 1).1)
  rw [D4.out]
  rw [D5.out] at H9
  clear h9 c9 H8
  go_wp2_with fail
  refine (fleAll _ g1 _ _ _ _ _ H9.out.fle).mono ?_
  rintro e w10 ⟨u10, rfl, o10, b10⟩
  obtain ⟨A10, cap10, rfl, _, _, _⟩ := o10.slice
  have HB4 := Lib.hid (H9.out.read b10).below
  clear o10 b10 H9 F1 F2 F3 F4 F5 F6 F7 F8 F9 F10 F11 D1 D2 D3 D4 D5
  simp only [List.length_nil]
  by_cases hlen : 150 < l.length
  · have hbig : (150 : Int) < (l.length : Int) := by omega
    go_wp2_with fail
    go_ret
    exact ⟨rfl, HB4.out⟩
  have hsm : (l.length : Int) ≤ 150 := by omega
  have HSm := Lib.hid (show l.length ≤ 150 by omega)
  have HM := Lib.hid (mostOf_in n)
  clear hlen
  go_wp2_with fail
  refine (fleNew n _).mono ?_
  rintro e w5 ⟨g, rfl, h5, hb5⟩
  have H0 := Lib.hid (show FleRun 88 w w5 g (mostOf n) 0 from ⟨_, _, _, _, (FleSolo.made h5 hb5).old HB4.out, by decide, by decide⟩)
  clear h5 hb5
  go_wp2_with fail
  go_loopw [76] (fun i wr => ∃ k : Nat, k ≤ l.length ∧ i = .int .i64 k ∧ Hid (FleRun 88 w wr g (mostOf n) k)) (fun i _ => l.length - (intOf i).toNat)
  case atStart => exact ⟨0, by omega, rfl, H0⟩
  case round =>
    clear H0
    obtain ⟨k, hk, rfl, H⟩ := hrel
    obtain ⟨S, v, L, last, hF0, hla0, hln0⟩ := H.out
    have HF0 := Lib.hid hF0; have HLa0 := Lib.hid hla0; have HLn0 := Lib.hid hln0
    clear hF0 H hla0 hln0
    by_cases hlt : k < l.length
    · obtain ⟨b, off, x, y, rfl, hx, hy⟩ := order_row HA.out HR.out HF0.out.below hlt
      have i0 : (0 : Int) ≤ (k : Int) := by omega
      have i1 : (k : Int) < (l.length : Int) := by omega
      have HKs := Lib.hid (show k ≤ 150 by have := HSm.out; omega)
      have HF1 := Lib.hid (HF0.out.alloc (.cells #[.int .i64 x, .int .i64 y] 61))
      have HX1 := Lib.hid (Tide.At.made wr 61 #[.int .i64 x, .int .i64 y])
      have HLo := Lib.hid (loads_ok HF0.out.crew)
      have HCr := Lib.hid HF0.out.crew
      have HSl := Lib.hid HF0.out.fle.lim
      have HSum := Lib.hid (Tide.sum_all HLo.out)
      clear HF0
      go_wp2_with fail
      refine (fleLoads S g v L last _ _ HF1.out.fle HLo.out).mono ?_
      rintro e w2 ⟨rfl, b2⟩
      have HF := Lib.hid (HF1.out.read b2)
      have HX := Lib.hid (HX1.out.below b2 HX1.out.inside)
      have hx2 := HX.out.here (i := 0) rfl
      have hy2 := HX.out.here (i := 1) rfl
      have HSz := Lib.hid (show ∀ b, S b → b < wr.heap.size from HSl.out)
      obtain ⟨sm, hsm2⟩ : ∃ sm, Hid (Tide.sumL L = sm) := ⟨_, Lib.hid rfl⟩
      rw [hsm2.out] at HSum ⊢
      clear b2 HF1 HX1 hx hy HSl
      go_upto_block 2 with fail
      go_cut [] (fun wx => Hid (FleNext 88 w wx g (mostOf n) k))
      case first =>
        by_cases x0 : x = 0
        · subst x0
          as_aux_lemma =>
            have y1 := HX.out.drew.here (i := 1) rfl
            have sc := HCr.out.scale (by have := HM.out; omega) y
            have HSc := Lib.hid sc
            clear sc
            by_cases hbad : y < 0 ∨ 50 < y
            · have HE := Lib.hid (show Tide.scaleErr y = 1 by unfold Tide.scaleErr; rw [if_pos hbad])
              have HN := Lib.hid (fleNext (j := k) HF.out (by have := HLa0.out; omega) (by have := HLn0.out; omega))
              have HQ := Lib.hid hbad
              clear hbad
              go_wp2_with fail
              go_quiet ((go_at_call 30; exact Calls.quiet_of_same (fleScaleNo g y _ HQ.out)))
              go_wp2_with fail
              go_meet
              exact Lib.hid (fleNext_drewN HN.out _)
            · have HE := Lib.hid (show Tide.scaleErr y = 0 by unfold Tide.scaleErr; rw [if_neg hbad])
              have HLv := Lib.hid (HSc.out.2.2.1 HE.out)
              have HSm2 := Lib.hid (HSc.out.2.1.trans hsm2.out)
              clear hbad
              go_wp2_with fail
              go_region_held3 (fun w' => w'.cell? ⟨wr.heap.size, 1, none⟩ = some (.int .i64 y)) (first | exact y5 | exact y4 | exact y2 | go_keep) (first | (go_at_call 30; refine (fleScale S g v L last _ y _ HF.out.drew.fle HCr.out (by have := HM.out; omega) (by have := HLn0.out; have := HKs.out; omega) (by have := HLa0.out; have := HKs.out; omega)).mono ?_; rintro e w3 ⟨rfl, ⟨v3, h3⟩, c3⟩; rw [HE.out]; have X2 := HX.out.drew.stays c3 HSz.out; have y2 := X2.here (i := 1) rfl) | (go_at_call 31; refine (fleCount _ g v3 _ _ _ _ h3).mono ?_; rintro e w4 ⟨rfl, b4⟩; rw [HLv.out]; have X4 := X2.below b4 X2.inside; have y4 := X4.here (i := 1) rfl; have h4 := h3.below b4) | (go_at_call 37; refine (fleLoads _ g v3 _ _ _ _ h4 (loads_ok HSc.out.1)).mono ?_; rintro e w5 ⟨rfl, b5⟩; rw [HSm2.out]; have X5 := X4.below b5 X4.inside; have y5 := X5.here (i := 1) rfl))
              all_goals
                have HN := Lib.hid (fleNext (j := k) (((HF.out.drew.plus h3 c3 HSc.out.1).read b4).read b5) (by have := HSc.out.2.2.2.2; have := HLa0.out; omega) (by have := HSc.out.2.2.2.1; have := HLn0.out; omega))
                clear h3 c3 h4 b4 b5 X2 X4 X5 y1 y2 y4 y5 hx2 hy2
                go_wp2_with fail
                go_meet
                exact HN
        by_cases x1 : x = 1
        · subst x1
          clear x0
          as_aux_lemma =>
            go_wp2_with fail
            refine (fleStart S g v L last _ y _ HF.out.fle).mono ?_
            rintro e w3 ⟨rfl, ⟨v3, h3⟩, c3⟩
            have sc := HCr.out.turn y 1 2 (.inl ⟨rfl, rfl⟩)
            have HN := Lib.hid (fleNext (j := k) (HF.out.same h3 c3 sc.1) (by have := HLa0.out; omega) (by have := sc.2.2; have := HLn0.out; omega))
            clear h3 c3 sc hx2 hy2
            go_wp2_with fail
            go_meet
            exact HN
        by_cases x2 : x = 2
        · subst x2
          clear x0 x1
          as_aux_lemma =>
            go_wp2_with fail
            refine (fleReady S g v L last _ y _ HF.out.fle).mono ?_
            rintro e w3 ⟨rfl, ⟨v3, h3⟩, c3⟩
            have sc := HCr.out.turn y 2 3 (.inr ⟨rfl, rfl⟩)
            have HN := Lib.hid (fleNext (j := k) (HF.out.same h3 c3 sc.1) (by have := HLa0.out; omega) (by have := sc.2.2; have := HLn0.out; omega))
            clear h3 c3 sc hx2 hy2
            go_wp2_with fail
            go_meet
            exact HN
        by_cases x3 : x = 3
        · subst x3
          clear x0 x1 x2
          as_aux_lemma =>
            obtain ⟨ce, cn0, cn1⟩ := crash_ok (id := y) HLo.out
            have sc := HCr.out.crash y
            have HSc := Lib.hid sc
            have hs0 := HSum.out
            have HSm2 := Lib.hid (show Tide.sumL (Tide.crashLst L y) = sm - Tide.crashNum L y by rw [← hsm2.out]; exact sc.2.1)
            go_wp2_with fail
            refine (fleCrash S g v L last _ y _ HF.out.fle).mono ?_
            rintro e w3 ⟨rfl, ⟨v3, h3⟩, c3⟩
            have HF3 := Lib.hid (HF.out.same h3 c3 HSc.out.1)
            generalize Tide.crashNum L y = cn at cn0 cn1 HSm2 ⊢
            clear h3 c3 sc hx2 hy2
            have hw : IntKind.i64.wrap (sm - cn) = sm - cn := IntWalk.i64_in _ (by have := HLn0.out; have := HKs.out; omega)
            rcases ce with ce | ce
            · rw [ce]
              clear ce
              go_wp2_with fail
              refine (fleLoads _ g _ _ _ _ _ HF3.out.fle (loads_ok HSc.out.1)).mono ?_
              rintro e w4 ⟨rfl, b4⟩
              have HN := Lib.hid (fleNext (j := k) (HF3.out.read b4) (by have := HLa0.out; omega) (by have := HSc.out.2.2; have := HLn0.out; omega))
              rw [HSm2.out]
              clear b4
              go_wp2_with fail
              go_meet
              exact HN
            · rw [ce]
              clear ce
              have HN := Lib.hid (fleNext (j := k) HF3.out (by have := HLa0.out; omega) (by have := HSc.out.2.2; have := HLn0.out; omega))
              go_wp2_with fail
              go_meet
              exact HN
        by_cases x4 : x = 4
        · subst x4
          clear x0 x1 x2 x3
          as_aux_lemma =>
            have ce := give_01 L (mostOf n)
            have sc := HCr.out.give
            have HSc := Lib.hid sc
            have hs0 := HSum.out
            go_wp2_with fail
            refine (fleGive S g v L last _ _ HF.out.fle (by have := HM.out; omega) (fun p hp => (HLo.out p hp).1)).mono ?_
            rintro e w3 ⟨rfl, ⟨v3, h3⟩, c3⟩
            have HF3 := Lib.hid (HF.out.same h3 c3 HSc.out.1)
            clear h3 c3 hx2 hy2
            have hw : IntKind.i64.wrap (sm + 1) = sm + 1 := IntWalk.i64_in _ (by have := HLn0.out; have := HKs.out; omega)
            rcases ce with ce | ce
            · have HSm2 := Lib.hid (show Tide.sumL (Tide.giveLst L (mostOf n)) = sm + 1 by rw [sc.2.1, hsm2.out, if_pos ce])
              rw [ce]
              clear ce sc
              go_wp2_with fail
              refine (fleLoads _ g _ _ _ _ _ HF3.out.fle (loads_ok HSc.out.1)).mono ?_
              rintro e w4 ⟨rfl, b4⟩
              have HN := Lib.hid (fleNext (j := k) (HF3.out.read b4) (by have := HLa0.out; omega) (by have := HSc.out.2.2; have := HLn0.out; omega))
              rw [HSm2.out]
              clear b4
              go_wp2_with fail
              go_meet
              exact HN
            · rw [ce]
              clear ce sc
              have HN := Lib.hid (fleNext (j := k) HF3.out (by have := HLa0.out; omega) (by have := HSc.out.2.2; have := HLn0.out; omega))
              go_wp2_with fail
              go_meet
              exact HN
        by_cases x5 : x = 5
        · subst x5
          clear x0 x1 x2 x3 x4
          as_aux_lemma =>
            have ce := done_01 L y
            have sc := HCr.out.done y
            have HSc := Lib.hid sc
            have hs0 := HSum.out
            go_wp2_with fail
            refine (fleDone S g v L last _ y _ HF.out.fle HLo.out).mono ?_
            rintro e w3 ⟨rfl, ⟨v3, h3⟩, c3⟩
            have HF3 := Lib.hid (HF.out.same h3 c3 HSc.out.1)
            clear h3 c3 hx2 hy2
            have hw : IntKind.i64.wrap (sm - 1) = sm - 1 := IntWalk.i64_in _ (by have := HLn0.out; have := HKs.out; omega)
            rcases ce with ce | ce | ce
            · have HSm2 := Lib.hid (show Tide.sumL (Tide.podDoneLst L y) = sm - 1 by rw [sc.2.1, hsm2.out, if_pos ce])
              rw [ce]
              clear ce sc
              go_wp2_with fail
              refine (fleLoads _ g _ _ _ _ _ HF3.out.fle (loads_ok HSc.out.1)).mono ?_
              rintro e w4 ⟨rfl, b4⟩
              have HN := Lib.hid (fleNext (j := k) (HF3.out.read b4) (by have := HLa0.out; omega) (by have := HSc.out.2.2; have := HLn0.out; omega))
              rw [HSm2.out]
              clear b4
              go_wp2_with fail
              go_meet
              exact HN
            all_goals
              rw [ce]
              clear ce sc
              have HN := Lib.hid (fleNext (j := k) HF3.out (by have := HLa0.out; omega) (by have := HSc.out.2.2; have := HLn0.out; omega))
              go_wp2_with fail
              go_meet
              exact HN
        have e0 : (x == 0) = false := by simp [x0]
        have e1 : (x == 1) = false := by simp [x1]
        have e2 : (x == 2) = false := by simp [x2]
        have e3 : (x == 3) = false := by simp [x3]
        have e4 : (x == 4) = false := by simp [x4]
        have e5 : (x == 5) = false := by simp [x5]
        clear x0 x1 x2 x3 x4 x5
        go_wp2_with fail
        go_meet
        exact Lib.hid (fleNext HF.out (by have := HLa0.out; omega) (by have := HLn0.out; omega))
      case rest =>
        obtain ⟨S', v', L', last', hP, hla, hln⟩ := hcut.out
        have HP := Lib.hid hP; have HLa := Lib.hid hla; have HLn := Lib.hid hln
        clear hP hla hln hcut hx2 hy2 HF HX HSum HSz HLo HCr HLa0 HLn0 hsm2
        go_wp2_with fail
        refine (fleAll S' g v' L' last' _ _ HP.out.fle).mono ?_
        rintro e w4 ⟨u4, rfl, o4, b4⟩
        have HP4 := Lib.hid (HP.out.read b4)
        obtain ⟨A4, cap4, rfl, _, _, _⟩ := o4.slice
        have HO := Lib.hid o4
        have hsl : L'.length ≤ 10000000 := HP4.out.fle.small
        clear b4 o4 HP
        go_wp2_with fail
        go_loopw [168] (fun i wr => ∃ t : Nat, t ≤ L'.length ∧ i = .int .i64 t ∧ Hid (Below w4.heap.size w4 wr)) (fun i _ => L'.length - (intOf i).toNat)
        case atStart => exact ⟨0, by omega, rfl, Lib.hid (Below.refl _ _)⟩
        case round =>
          obtain ⟨t, ht, rfl, HB⟩ := hrel
          by_cases htl : t < L'.length
          · obtain ⟨p, hp⟩ := Tide.get_some L' htl
            obtain ⟨b, cap', e, hS, c0, c1, c2⟩ := row_pod (HO.out.below HB.out (Nat.le_refl _)) hp
            cases e
            have t0 : (0 : Int) ≤ (t : Int) := by omega
            have t1 : (t : Int) < (L'.length : Int) := by omega
            have HQ := Lib.hid (HP4.out.crew.loads p (List.mem_of_getElem? hp))
            have HSt := Lib.hid (HP4.out.crew.states p (List.mem_of_getElem? hp))
            have HBn := Lib.hid (HB.out.alloc HB.out.size (.cells #[.int .i64 p.id, .int .i64 p.state, .int .i64 p.load] 64))
            have HXp := Lib.hid (Tide.At.made wr 64 #[.int .i64 p.id, .int .i64 p.state, .int .i64 p.load])
            have HHp := Lib.hid hp
            clear hp
            go_upto_region 36 with fail
            clear c0 c1 c2
            go_cut [219] (fun s9 wx => s9 = .bool false ∧ Hid (Below w4.heap.size w4 wx))
            case first =>
              as_aux_lemma =>
              have x0 := HXp.out.here (i := 0) rfl; have x1 := HXp.out.here (i := 1) rfl; have x2 := HXp.out.here (i := 2) rfl
              have y0 := HXp.out.drew.here (i := 0) rfl; have y1 := HXp.out.drew.here (i := 1) rfl; have y2 := HXp.out.drew.here (i := 2) rfl
              have q0 := HQ.out.1
              have hmx : decide ((if (1 : Int) < (if (100 : Int) < n then (100 : Int) else n) then (if (100 : Int) < n then (100 : Int) else n) else 1) < p.load) = false := decide_eq_false (by have := HQ.out.2.1; unfold mostOf at this; split <;> split at * <;> omega)
              generalize wr.alloc (.cells #[.int .i64 p.id, .int .i64 p.state, .int .i64 p.load] 64) = W at HBn HXp x0 x1 x2 y0 y1 y2 ⊢
              have HL := Lib.hid (show (p.load = 0 ∧ p.state ≠ 4) ∨ (0 < p.load ∧ p.state = 3) ∨ (0 < p.load ∧ p.state = 4) by have := HQ.out; have := HSt.out; omega)
              rcases HL.out with ⟨q1, q2⟩ | ⟨q1, q2⟩ | ⟨q1, q2⟩
              · have q3 : (p.state == 4) = false := by simp [q2]
                have HEq := Lib.hid q1
                rw [q1] at x2 y2 hmx
                clear q0 q2 q1
                cases t with
                | zero =>
                  as_aux_lemma =>
                    go_wp2_with fail
                    have hS : (fun w' : World => w'.cell? ⟨wr.heap.size, 0, none⟩ = some (.int .i64 p.id) ∧ w'.cell? ⟨wr.heap.size, 1, none⟩ = some (.int .i64 p.state) ∧ w'.cell? ⟨wr.heap.size, 2, none⟩ = some (.int .i64 0)) W.drew := ⟨y0, y1, y2⟩
                    refine wp_region_held_drew (S := (fun w' : World => w'.cell? ⟨wr.heap.size, 0, none⟩ = some (.int .i64 p.id) ∧ w'.cell? ⟨wr.heap.size, 1, none⟩ = some (.int .i64 p.state) ∧ w'.cell? ⟨wr.heap.size, 2, none⟩ = some (.int .i64 0))) (by kernel_rfl) hS (fun _ => ?_)
                    change wpAnyH _ _ _ _ _ 47 #[false, false, false, false, false, false, false, false, false, false, false, false, false, false, false, false, false, false, false, false, false, false, false, false, false, false, false, false, false, false, false, false, false, false, false, false, false, false, false, false, false, false, false, false, false, false, false] _ (World.drew _)
                    refine wpAnyH_take (i := 0) (v := .pointer (some ⟨wr.heap.size, 2, none⟩)) rfl (by kernel_rfl) (by kernel_rfl) (by kernel_rfl) (fun _ _ _ h => h) (.inl ⟨by rfl, fun W hW => ?_⟩) hS ?_
                    · obtain ⟨z0, z1, z2⟩ := hW; go_simp
                    simp only [Act.put, List.getElem_toArray, List.getElem_cons_succ, List.getElem_cons_zero, List.setIfInBounds_toArray, List.set_cons_zero, List.set_cons_succ]
                    refine wpAnyH_take (i := 1) (v := .int .i64 0) rfl (by kernel_rfl) (by kernel_rfl) (by kernel_rfl) (fun _ _ _ h => h) (.inl ⟨by rfl, fun W hW => ?_⟩) hS ?_
                    · obtain ⟨z0, z1, z2⟩ := hW; go_simp
                    simp only [Act.put, List.getElem_toArray, List.getElem_cons_succ, List.getElem_cons_zero, List.setIfInBounds_toArray, List.set_cons_zero, List.set_cons_succ]
                    refine wpAnyH_take (i := 2) (v := .bool false) rfl (by kernel_rfl) (by kernel_rfl) (by kernel_rfl) (fun _ _ _ h => h) (.inl ⟨by rfl, fun W hW => ?_⟩) hS ?_
                    · obtain ⟨z0, z1, z2⟩ := hW; go_simp
                    simp only [Act.put, List.getElem_toArray, List.getElem_cons_succ, List.getElem_cons_zero, List.setIfInBounds_toArray, List.set_cons_zero, List.set_cons_succ]
                    refine wpAnyH_take (i := 3) (v := .bool false) rfl (by kernel_rfl) (by kernel_rfl) (by kernel_rfl) (fun _ _ _ h => h) (.inl ⟨by rfl, fun W hW => ?_⟩) hS ?_
                    · obtain ⟨z0, z1, z2⟩ := hW; go_simp
                    simp only [Act.put, List.getElem_toArray, List.getElem_cons_succ, List.getElem_cons_zero, List.setIfInBounds_toArray, List.set_cons_zero, List.set_cons_succ]
                    refine wpAnyH_take (i := 4) (v := .pointer (some ⟨wr.heap.size, 2, none⟩)) rfl (by kernel_rfl) (by kernel_rfl) (by kernel_rfl) (fun _ _ _ h => h) (.inl ⟨by rfl, fun W hW => ?_⟩) hS ?_
                    · obtain ⟨z0, z1, z2⟩ := hW; go_simp
                    simp only [Act.put, List.getElem_toArray, List.getElem_cons_succ, List.getElem_cons_zero, List.setIfInBounds_toArray, List.set_cons_zero, List.set_cons_succ]
                    refine wpAnyH_take (i := 5) (v := .int .i64 0) rfl (by kernel_rfl) (by kernel_rfl) (by kernel_rfl) (fun _ _ _ h => h) (.inl ⟨by rfl, fun W hW => ?_⟩) hS ?_
                    · obtain ⟨z0, z1, z2⟩ := hW; go_simp
                    simp only [Act.put, List.getElem_toArray, List.getElem_cons_succ, List.getElem_cons_zero, List.setIfInBounds_toArray, List.set_cons_zero, List.set_cons_succ]
                    refine wpAnyH_take (i := 6) (v := .int .i64 n) rfl (by kernel_rfl) (by kernel_rfl) (by kernel_rfl) (fun _ _ _ h => h) (.inl ⟨by rfl, fun W hW => ?_⟩) hS ?_
                    · obtain ⟨z0, z1, z2⟩ := hW; go_simp
                    simp only [Act.put, List.getElem_toArray, List.getElem_cons_succ, List.getElem_cons_zero, List.setIfInBounds_toArray, List.set_cons_zero, List.set_cons_succ]
                    refine wpAnyH_take (i := 7) (v := .int .i64 (if (100 : Int) < n then (100 : Int) else n)) rfl (by kernel_rfl) (by kernel_rfl) (by kernel_rfl) (fun _ _ _ h => h) (.inl ⟨by rfl, fun W hW => ?_⟩) hS ?_
                    · obtain ⟨z0, z1, z2⟩ := hW; go_simp
                    simp only [Act.put, List.getElem_toArray, List.getElem_cons_succ, List.getElem_cons_zero, List.setIfInBounds_toArray, List.set_cons_zero, List.set_cons_succ]
                    refine wpAnyH_take (i := 8) (v := .int .i64 (if (1 : Int) < (if (100 : Int) < n then (100 : Int) else n) then (if (100 : Int) < n then (100 : Int) else n) else 1)) rfl (by kernel_rfl) (by kernel_rfl) (by kernel_rfl) (fun _ _ _ h => h) (.inl ⟨by rfl, fun W hW => ?_⟩) hS ?_
                    · obtain ⟨z0, z1, z2⟩ := hW; go_simp
                    simp only [Act.put, List.getElem_toArray, List.getElem_cons_succ, List.getElem_cons_zero, List.setIfInBounds_toArray, List.set_cons_zero, List.set_cons_succ]
                    refine wpAnyH_take (i := 9) (v := .bool (decide ((if (1 : Int) < (if (100 : Int) < n then (100 : Int) else n) then (if (100 : Int) < n then (100 : Int) else n) else 1) < 0))) rfl (by kernel_rfl) (by kernel_rfl) (by kernel_rfl) (fun _ _ _ h => h) (.inl ⟨by rfl, fun W hW => ?_⟩) hS ?_
                    · obtain ⟨z0, z1, z2⟩ := hW; go_simp
                    simp only [Act.put, List.getElem_toArray, List.getElem_cons_succ, List.getElem_cons_zero, List.setIfInBounds_toArray, List.set_cons_zero, List.set_cons_succ]
                    rw [hmx]
                    generalize (if (1 : Int) < (if (100 : Int) < n then (100 : Int) else n) then (if (100 : Int) < n then (100 : Int) else n) else 1) = mx1
                    generalize (if (100 : Int) < n then (100 : Int) else n) = mx0
                    refine wpAnyH_take (i := 10) (v := .bool false) rfl (by kernel_rfl) (by kernel_rfl) (by kernel_rfl) (fun _ _ _ h => h) (.inl ⟨by rfl, fun W hW => ?_⟩) hS ?_
                    · obtain ⟨z0, z1, z2⟩ := hW; go_simp
                    simp only [Act.put, List.getElem_toArray, List.getElem_cons_succ, List.getElem_cons_zero, List.setIfInBounds_toArray, List.set_cons_zero, List.set_cons_succ]
                    refine wpAnyH_take (i := 11) (v := .bool false) rfl (by kernel_rfl) (by kernel_rfl) (by kernel_rfl) (fun _ _ _ h => h) (.inl ⟨by rfl, fun W hW => ?_⟩) hS ?_
                    · obtain ⟨z0, z1, z2⟩ := hW; go_simp
                    simp only [Act.put, List.getElem_toArray, List.getElem_cons_succ, List.getElem_cons_zero, List.setIfInBounds_toArray, List.set_cons_zero, List.set_cons_succ]
                    refine wpAnyH_take (i := 12) (v := .pointer (some ⟨wr.heap.size, 2, none⟩)) rfl (by kernel_rfl) (by kernel_rfl) (by kernel_rfl) (fun _ _ _ h => h) (.inl ⟨by rfl, fun W hW => ?_⟩) hS ?_
                    · obtain ⟨z0, z1, z2⟩ := hW; go_simp
                    simp only [Act.put, List.getElem_toArray, List.getElem_cons_succ, List.getElem_cons_zero, List.setIfInBounds_toArray, List.set_cons_zero, List.set_cons_succ]
                    refine wpAnyH_take (i := 13) (v := .int .i64 0) rfl (by kernel_rfl) (by kernel_rfl) (by kernel_rfl) (fun _ _ _ h => h) (.inl ⟨by rfl, fun W hW => ?_⟩) hS ?_
                    · obtain ⟨z0, z1, z2⟩ := hW; go_simp
                    simp only [Act.put, List.getElem_toArray, List.getElem_cons_succ, List.getElem_cons_zero, List.setIfInBounds_toArray, List.set_cons_zero, List.set_cons_succ]
                    refine wpAnyH_take (i := 14) (v := .bool false) rfl (by kernel_rfl) (by kernel_rfl) (by kernel_rfl) (fun _ _ _ h => h) (.inl ⟨by rfl, fun W hW => ?_⟩) hS ?_
                    · obtain ⟨z0, z1, z2⟩ := hW; go_simp
                    simp only [Act.put, List.getElem_toArray, List.getElem_cons_succ, List.getElem_cons_zero, List.setIfInBounds_toArray, List.set_cons_zero, List.set_cons_succ]
                    refine wpAnyH_take (i := 15) (v := .bool false) rfl (by kernel_rfl) (by kernel_rfl) (by kernel_rfl) (fun _ _ _ h => h) (.inl ⟨by rfl, fun W hW => ?_⟩) hS ?_
                    · obtain ⟨z0, z1, z2⟩ := hW; go_simp
                    simp only [Act.put, List.getElem_toArray, List.getElem_cons_succ, List.getElem_cons_zero, List.setIfInBounds_toArray, List.set_cons_zero, List.set_cons_succ]
                    refine wpAnyH_take (i := 16) (v := undef) rfl (by kernel_rfl) (by kernel_rfl) (by kernel_rfl) (fun _ _ _ h => h) (.inr ⟨by rfl, rfl⟩) hS ?_
                    simp only [Act.put, List.getElem_toArray, List.getElem_cons_succ, List.getElem_cons_zero, List.setIfInBounds_toArray, List.set_cons_zero, List.set_cons_succ]
                    refine wpAnyH_take (i := 17) (v := undef) rfl (by kernel_rfl) (by kernel_rfl) (by kernel_rfl) (fun _ _ _ h => h) (.inr ⟨by rfl, rfl⟩) hS ?_
                    simp only [Act.put, List.getElem_toArray, List.getElem_cons_succ, List.getElem_cons_zero, List.setIfInBounds_toArray, List.set_cons_zero, List.set_cons_succ]
                    refine wpAnyH_take (i := 18) (v := undef) rfl (by kernel_rfl) (by kernel_rfl) (by kernel_rfl) (fun _ _ _ h => h) (.inr ⟨by rfl, rfl⟩) hS ?_
                    simp only [Act.put, List.getElem_toArray, List.getElem_cons_succ, List.getElem_cons_zero, List.setIfInBounds_toArray, List.set_cons_zero, List.set_cons_succ]
                    refine wpAnyH_take (i := 19) (v := .bool false) rfl (by kernel_rfl) (by kernel_rfl) (by kernel_rfl) (fun _ _ _ h => h) (.inl ⟨by rfl, fun W hW => ?_⟩) hS ?_
                    · obtain ⟨z0, z1, z2⟩ := hW; go_simp
                    simp only [Act.put, List.getElem_toArray, List.getElem_cons_succ, List.getElem_cons_zero, List.setIfInBounds_toArray, List.set_cons_zero, List.set_cons_succ]
                    refine wpAnyH_take (i := 20) (v := .bool false) rfl (by kernel_rfl) (by kernel_rfl) (by kernel_rfl) (fun _ _ _ h => h) (.inl ⟨by rfl, fun W hW => ?_⟩) hS ?_
                    · obtain ⟨z0, z1, z2⟩ := hW; go_simp
                    simp only [Act.put, List.getElem_toArray, List.getElem_cons_succ, List.getElem_cons_zero, List.setIfInBounds_toArray, List.set_cons_zero, List.set_cons_succ]
                    refine wpAnyH_take (i := 21) (v := .bool false) rfl (by kernel_rfl) (by kernel_rfl) (by kernel_rfl) (fun _ _ _ h => h) (.inl ⟨by rfl, fun W hW => ?_⟩) hS ?_
                    · obtain ⟨z0, z1, z2⟩ := hW; go_simp
                    simp only [Act.put, List.getElem_toArray, List.getElem_cons_succ, List.getElem_cons_zero, List.setIfInBounds_toArray, List.set_cons_zero, List.set_cons_succ]
                    refine wpAnyH_take (i := 22) (v := .pointer (some ⟨wr.heap.size, 1, none⟩)) rfl (by kernel_rfl) (by kernel_rfl) (by kernel_rfl) (fun _ _ _ h => h) (.inl ⟨by rfl, fun W hW => ?_⟩) hS ?_
                    · obtain ⟨z0, z1, z2⟩ := hW; go_simp
                    simp only [Act.put, List.getElem_toArray, List.getElem_cons_succ, List.getElem_cons_zero, List.setIfInBounds_toArray, List.set_cons_zero, List.set_cons_succ]
                    refine wpAnyH_take (i := 23) (v := .int .i64 p.state) rfl (by kernel_rfl) (by kernel_rfl) (by kernel_rfl) (fun _ _ _ h => h) (.inl ⟨by rfl, fun W hW => ?_⟩) hS ?_
                    · obtain ⟨z0, z1, z2⟩ := hW; go_simp
                    simp only [Act.put, List.getElem_toArray, List.getElem_cons_succ, List.getElem_cons_zero, List.setIfInBounds_toArray, List.set_cons_zero, List.set_cons_succ]
                    refine wpAnyH_take (i := 24) (v := .bool false) rfl (by kernel_rfl) (by kernel_rfl) (by kernel_rfl) (fun _ _ _ h => h) (.inl ⟨by rfl, fun W hW => ?_⟩) hS ?_
                    · obtain ⟨z0, z1, z2⟩ := hW; go_simp
                    simp only [Act.put, List.getElem_toArray, List.getElem_cons_succ, List.getElem_cons_zero, List.setIfInBounds_toArray, List.set_cons_zero, List.set_cons_succ]
                    refine wpAnyH_take (i := 25) (v := .bool false) rfl (by kernel_rfl) (by kernel_rfl) (by kernel_rfl) (fun _ _ _ h => h) (.inl ⟨by rfl, fun W hW => ?_⟩) hS ?_
                    · obtain ⟨z0, z1, z2⟩ := hW; go_simp
                    simp only [Act.put, List.getElem_toArray, List.getElem_cons_succ, List.getElem_cons_zero, List.setIfInBounds_toArray, List.set_cons_zero, List.set_cons_succ]
                    refine wpAnyH_take (i := 26) (v := undef) rfl (by kernel_rfl) (by kernel_rfl) (by kernel_rfl) (fun _ _ _ h => h) (.inr ⟨by rfl, rfl⟩) hS ?_
                    simp only [Act.put, List.getElem_toArray, List.getElem_cons_succ, List.getElem_cons_zero, List.setIfInBounds_toArray, List.set_cons_zero, List.set_cons_succ]
                    refine wpAnyH_take (i := 27) (v := undef) rfl (by kernel_rfl) (by kernel_rfl) (by kernel_rfl) (fun _ _ _ h => h) (.inr ⟨by rfl, rfl⟩) hS ?_
                    simp only [Act.put, List.getElem_toArray, List.getElem_cons_succ, List.getElem_cons_zero, List.setIfInBounds_toArray, List.set_cons_zero, List.set_cons_succ]
                    refine wpAnyH_take (i := 28) (v := undef) rfl (by kernel_rfl) (by kernel_rfl) (by kernel_rfl) (fun _ _ _ h => h) (.inr ⟨by rfl, rfl⟩) hS ?_
                    simp only [Act.put, List.getElem_toArray, List.getElem_cons_succ, List.getElem_cons_zero, List.setIfInBounds_toArray, List.set_cons_zero, List.set_cons_succ]
                    refine wpAnyH_take (i := 29) (v := .bool false) rfl (by kernel_rfl) (by kernel_rfl) (by kernel_rfl) (fun _ _ _ h => h) (.inl ⟨by rfl, fun W hW => ?_⟩) hS ?_
                    · obtain ⟨z0, z1, z2⟩ := hW; go_simp
                    simp only [Act.put, List.getElem_toArray, List.getElem_cons_succ, List.getElem_cons_zero, List.setIfInBounds_toArray, List.set_cons_zero, List.set_cons_succ]
                    refine wpAnyH_take (i := 30) (v := .bool false) rfl (by kernel_rfl) (by kernel_rfl) (by kernel_rfl) (fun _ _ _ h => h) (.inl ⟨by rfl, fun W hW => ?_⟩) hS ?_
                    · obtain ⟨z0, z1, z2⟩ := hW; go_simp
                    simp only [Act.put, List.getElem_toArray, List.getElem_cons_succ, List.getElem_cons_zero, List.setIfInBounds_toArray, List.set_cons_zero, List.set_cons_succ]
                    refine wpAnyH_take (i := 31) (v := .bool false) rfl (by kernel_rfl) (by kernel_rfl) (by kernel_rfl) (fun _ _ _ h => h) (.inl ⟨by rfl, fun W hW => ?_⟩) hS ?_
                    · obtain ⟨z0, z1, z2⟩ := hW; go_simp
                    simp only [Act.put, List.getElem_toArray, List.getElem_cons_succ, List.getElem_cons_zero, List.setIfInBounds_toArray, List.set_cons_zero, List.set_cons_succ]
                    refine wpAnyH_take (i := 32) (v := .int .i64 ((0 : Nat) : Int)) rfl (by kernel_rfl) (by kernel_rfl) (by kernel_rfl) (fun _ _ _ h => h) (.inl ⟨by rfl, fun W hW => ?_⟩) hS ?_
                    · obtain ⟨z0, z1, z2⟩ := hW; go_simp
                    simp only [Act.put, List.getElem_toArray, List.getElem_cons_succ, List.getElem_cons_zero, List.setIfInBounds_toArray, List.set_cons_zero, List.set_cons_succ]
                    refine wpAnyH_take (i := 33) (v := .bool false) rfl (by kernel_rfl) (by kernel_rfl) (by kernel_rfl) (fun _ _ _ h => h) (.inl ⟨by rfl, fun W hW => ?_⟩) hS ?_
                    · obtain ⟨z0, z1, z2⟩ := hW; go_simp
                    simp only [Act.put, List.getElem_toArray, List.getElem_cons_succ, List.getElem_cons_zero, List.setIfInBounds_toArray, List.set_cons_zero, List.set_cons_succ]
                    refine wpAnyH_take (i := 34) (v := .bool false) rfl (by kernel_rfl) (by kernel_rfl) (by kernel_rfl) (fun _ _ _ h => h) (.inl ⟨by rfl, fun W hW => ?_⟩) hS ?_
                    · obtain ⟨z0, z1, z2⟩ := hW; go_simp
                    simp only [Act.put, List.getElem_toArray, List.getElem_cons_succ, List.getElem_cons_zero, List.setIfInBounds_toArray, List.set_cons_zero, List.set_cons_succ]
                    refine wpAnyH_take (i := 35) (v := undef) rfl (by kernel_rfl) (by kernel_rfl) (by kernel_rfl) (fun _ _ _ h => h) (.inr ⟨by rfl, rfl⟩) hS ?_
                    simp only [Act.put, List.getElem_toArray, List.getElem_cons_succ, List.getElem_cons_zero, List.setIfInBounds_toArray, List.set_cons_zero, List.set_cons_succ]
                    refine wpAnyH_take (i := 36) (v := undef) rfl (by kernel_rfl) (by kernel_rfl) (by kernel_rfl) (fun _ _ _ h => h) (.inr ⟨by rfl, rfl⟩) hS ?_
                    simp only [Act.put, List.getElem_toArray, List.getElem_cons_succ, List.getElem_cons_zero, List.setIfInBounds_toArray, List.set_cons_zero, List.set_cons_succ]
                    refine wpAnyH_take (i := 37) (v := undef) rfl (by kernel_rfl) (by kernel_rfl) (by kernel_rfl) (fun _ _ _ h => h) (.inr ⟨by rfl, rfl⟩) hS ?_
                    simp only [Act.put, List.getElem_toArray, List.getElem_cons_succ, List.getElem_cons_zero, List.setIfInBounds_toArray, List.set_cons_zero, List.set_cons_succ]
                    refine wpAnyH_take (i := 38) (v := undef) rfl (by kernel_rfl) (by kernel_rfl) (by kernel_rfl) (fun _ _ _ h => h) (.inr ⟨by rfl, rfl⟩) hS ?_
                    simp only [Act.put, List.getElem_toArray, List.getElem_cons_succ, List.getElem_cons_zero, List.setIfInBounds_toArray, List.set_cons_zero, List.set_cons_succ]
                    refine wpAnyH_take (i := 39) (v := undef) rfl (by kernel_rfl) (by kernel_rfl) (by kernel_rfl) (fun _ _ _ h => h) (.inr ⟨by rfl, rfl⟩) hS ?_
                    simp only [Act.put, List.getElem_toArray, List.getElem_cons_succ, List.getElem_cons_zero, List.setIfInBounds_toArray, List.set_cons_zero, List.set_cons_succ]
                    refine wpAnyH_take (i := 40) (v := undef) rfl (by kernel_rfl) (by kernel_rfl) (by kernel_rfl) (fun _ _ _ h => h) (.inr ⟨by rfl, rfl⟩) hS ?_
                    simp only [Act.put, List.getElem_toArray, List.getElem_cons_succ, List.getElem_cons_zero, List.setIfInBounds_toArray, List.set_cons_zero, List.set_cons_succ]
                    refine wpAnyH_take (i := 41) (v := undef) rfl (by kernel_rfl) (by kernel_rfl) (by kernel_rfl) (fun _ _ _ h => h) (.inr ⟨by rfl, rfl⟩) hS ?_
                    simp only [Act.put, List.getElem_toArray, List.getElem_cons_succ, List.getElem_cons_zero, List.setIfInBounds_toArray, List.set_cons_zero, List.set_cons_succ]
                    refine wpAnyH_take (i := 42) (v := undef) rfl (by kernel_rfl) (by kernel_rfl) (by kernel_rfl) (fun _ _ _ h => h) (.inr ⟨by rfl, rfl⟩) hS ?_
                    simp only [Act.put, List.getElem_toArray, List.getElem_cons_succ, List.getElem_cons_zero, List.setIfInBounds_toArray, List.set_cons_zero, List.set_cons_succ]
                    refine wpAnyH_take (i := 43) (v := undef) rfl (by kernel_rfl) (by kernel_rfl) (by kernel_rfl) (fun _ _ _ h => h) (.inr ⟨by rfl, rfl⟩) hS ?_
                    simp only [Act.put, List.getElem_toArray, List.getElem_cons_succ, List.getElem_cons_zero, List.setIfInBounds_toArray, List.set_cons_zero, List.set_cons_succ]
                    refine wpAnyH_take (i := 44) (v := undef) rfl (by kernel_rfl) (by kernel_rfl) (by kernel_rfl) (fun _ _ _ h => h) (.inr ⟨by rfl, rfl⟩) hS ?_
                    simp only [Act.put, List.getElem_toArray, List.getElem_cons_succ, List.getElem_cons_zero, List.setIfInBounds_toArray, List.set_cons_zero, List.set_cons_succ]
                    refine wpAnyH_take (i := 45) (v := .bool false) rfl (by kernel_rfl) (by kernel_rfl) (by kernel_rfl) (fun _ _ _ h => h) (.inl ⟨by rfl, fun W hW => ?_⟩) hS ?_
                    · obtain ⟨z0, z1, z2⟩ := hW; go_simp
                    simp only [Act.put, List.getElem_toArray, List.getElem_cons_succ, List.getElem_cons_zero, List.setIfInBounds_toArray, List.set_cons_zero, List.set_cons_succ]
                    refine wpAnyH_take (i := 46) (v := .bool false) rfl (by kernel_rfl) (by kernel_rfl) (by kernel_rfl) (fun _ _ _ h => h) (.inl ⟨by rfl, fun W hW => ?_⟩) hS ?_
                    · obtain ⟨z0, z1, z2⟩ := hW; go_simp
                    simp only [Act.put, List.getElem_toArray, List.getElem_cons_succ, List.getElem_cons_zero, List.setIfInBounds_toArray, List.set_cons_zero, List.set_cons_succ]
                    refine wpAnyH_done (by kernel_rfl) ?_ _
                    clear hS
                    go_wp2_with fail
                    all_goals (go_meet; exact ⟨rfl, Lib.hid HBn.out.drew⟩)
                | succ m =>
                  as_aux_lemma =>
                    obtain ⟨p', hp'⟩ := Tide.get_some L' (show m < L'.length by omega)
                    have hlt' := Tide.up_get HP4.out.crew.up (show m < m + 1 by omega) HHp.out hp'
                    have hdl : decide (p.id ≤ p'.id) = false := decide_eq_false (by omega)
                    have m0 : (0 : Int) ≤ (m : Int) := by omega
                    have m1 : (m : Int) < (L'.length : Int) := by omega
                    have hw : IntKind.i64.wrap (((m + 1 : Nat) : Int) - 1) = (m : Int) := by rw [IntWalk.i64_in _ (by omega)]; omega
                    have hw2 : IntKind.i64.wrap (m : Int) = (m : Int) := IntWalk.i64_in _ (by omega)
                    have mz : (0 : Int) < ((m + 1 : Nat) : Int) := by omega
                    clear hlt'
                    have HPW := Lib.hid (HP4.out.fle.below HBn.out)
                    go_wp2_with fail
                    have hS : (fun w' : World => w'.cell? ⟨wr.heap.size, 0, none⟩ = some (.int .i64 p.id) ∧ w'.cell? ⟨wr.heap.size, 1, none⟩ = some (.int .i64 p.state) ∧ w'.cell? ⟨wr.heap.size, 2, none⟩ = some (.int .i64 0)) W.drew := ⟨y0, y1, y2⟩
                    refine wp_region_held_drew (S := (fun w' : World => w'.cell? ⟨wr.heap.size, 0, none⟩ = some (.int .i64 p.id) ∧ w'.cell? ⟨wr.heap.size, 1, none⟩ = some (.int .i64 p.state) ∧ w'.cell? ⟨wr.heap.size, 2, none⟩ = some (.int .i64 0))) (by kernel_rfl) hS (fun _ => ?_)
                    change wpAnyH _ _ _ _ _ 47 #[false, false, false, false, false, false, false, false, false, false, false, false, false, false, false, false, false, false, false, false, false, false, false, false, false, false, false, false, false, false, false, false, false, false, false, false, false, false, false, false, false, false, false, false, false, false, false] _ (World.drew _)
                    refine wpAnyH_take (i := 0) (v := .pointer (some ⟨wr.heap.size, 2, none⟩)) rfl (by kernel_rfl) (by kernel_rfl) (by kernel_rfl) (fun _ _ _ h => h) (.inl ⟨by rfl, fun W hW => ?_⟩) hS ?_
                    · obtain ⟨z0, z1, z2⟩ := hW; go_simp
                    simp only [Act.put, List.getElem_toArray, List.getElem_cons_succ, List.getElem_cons_zero, List.setIfInBounds_toArray, List.set_cons_zero, List.set_cons_succ]
                    refine wpAnyH_take (i := 1) (v := .int .i64 0) rfl (by kernel_rfl) (by kernel_rfl) (by kernel_rfl) (fun _ _ _ h => h) (.inl ⟨by rfl, fun W hW => ?_⟩) hS ?_
                    · obtain ⟨z0, z1, z2⟩ := hW; go_simp
                    simp only [Act.put, List.getElem_toArray, List.getElem_cons_succ, List.getElem_cons_zero, List.setIfInBounds_toArray, List.set_cons_zero, List.set_cons_succ]
                    refine wpAnyH_take (i := 2) (v := .bool false) rfl (by kernel_rfl) (by kernel_rfl) (by kernel_rfl) (fun _ _ _ h => h) (.inl ⟨by rfl, fun W hW => ?_⟩) hS ?_
                    · obtain ⟨z0, z1, z2⟩ := hW; go_simp
                    simp only [Act.put, List.getElem_toArray, List.getElem_cons_succ, List.getElem_cons_zero, List.setIfInBounds_toArray, List.set_cons_zero, List.set_cons_succ]
                    refine wpAnyH_take (i := 3) (v := .bool false) rfl (by kernel_rfl) (by kernel_rfl) (by kernel_rfl) (fun _ _ _ h => h) (.inl ⟨by rfl, fun W hW => ?_⟩) hS ?_
                    · obtain ⟨z0, z1, z2⟩ := hW; go_simp
                    simp only [Act.put, List.getElem_toArray, List.getElem_cons_succ, List.getElem_cons_zero, List.setIfInBounds_toArray, List.set_cons_zero, List.set_cons_succ]
                    refine wpAnyH_take (i := 4) (v := .pointer (some ⟨wr.heap.size, 2, none⟩)) rfl (by kernel_rfl) (by kernel_rfl) (by kernel_rfl) (fun _ _ _ h => h) (.inl ⟨by rfl, fun W hW => ?_⟩) hS ?_
                    · obtain ⟨z0, z1, z2⟩ := hW; go_simp
                    simp only [Act.put, List.getElem_toArray, List.getElem_cons_succ, List.getElem_cons_zero, List.setIfInBounds_toArray, List.set_cons_zero, List.set_cons_succ]
                    refine wpAnyH_take (i := 5) (v := .int .i64 0) rfl (by kernel_rfl) (by kernel_rfl) (by kernel_rfl) (fun _ _ _ h => h) (.inl ⟨by rfl, fun W hW => ?_⟩) hS ?_
                    · obtain ⟨z0, z1, z2⟩ := hW; go_simp
                    simp only [Act.put, List.getElem_toArray, List.getElem_cons_succ, List.getElem_cons_zero, List.setIfInBounds_toArray, List.set_cons_zero, List.set_cons_succ]
                    refine wpAnyH_take (i := 6) (v := .int .i64 n) rfl (by kernel_rfl) (by kernel_rfl) (by kernel_rfl) (fun _ _ _ h => h) (.inl ⟨by rfl, fun W hW => ?_⟩) hS ?_
                    · obtain ⟨z0, z1, z2⟩ := hW; go_simp
                    simp only [Act.put, List.getElem_toArray, List.getElem_cons_succ, List.getElem_cons_zero, List.setIfInBounds_toArray, List.set_cons_zero, List.set_cons_succ]
                    refine wpAnyH_take (i := 7) (v := .int .i64 (if (100 : Int) < n then (100 : Int) else n)) rfl (by kernel_rfl) (by kernel_rfl) (by kernel_rfl) (fun _ _ _ h => h) (.inl ⟨by rfl, fun W hW => ?_⟩) hS ?_
                    · obtain ⟨z0, z1, z2⟩ := hW; go_simp
                    simp only [Act.put, List.getElem_toArray, List.getElem_cons_succ, List.getElem_cons_zero, List.setIfInBounds_toArray, List.set_cons_zero, List.set_cons_succ]
                    refine wpAnyH_take (i := 8) (v := .int .i64 (if (1 : Int) < (if (100 : Int) < n then (100 : Int) else n) then (if (100 : Int) < n then (100 : Int) else n) else 1)) rfl (by kernel_rfl) (by kernel_rfl) (by kernel_rfl) (fun _ _ _ h => h) (.inl ⟨by rfl, fun W hW => ?_⟩) hS ?_
                    · obtain ⟨z0, z1, z2⟩ := hW; go_simp
                    simp only [Act.put, List.getElem_toArray, List.getElem_cons_succ, List.getElem_cons_zero, List.setIfInBounds_toArray, List.set_cons_zero, List.set_cons_succ]
                    refine wpAnyH_take (i := 9) (v := .bool (decide ((if (1 : Int) < (if (100 : Int) < n then (100 : Int) else n) then (if (100 : Int) < n then (100 : Int) else n) else 1) < 0))) rfl (by kernel_rfl) (by kernel_rfl) (by kernel_rfl) (fun _ _ _ h => h) (.inl ⟨by rfl, fun W hW => ?_⟩) hS ?_
                    · obtain ⟨z0, z1, z2⟩ := hW; go_simp
                    simp only [Act.put, List.getElem_toArray, List.getElem_cons_succ, List.getElem_cons_zero, List.setIfInBounds_toArray, List.set_cons_zero, List.set_cons_succ]
                    rw [hmx]
                    generalize (if (1 : Int) < (if (100 : Int) < n then (100 : Int) else n) then (if (100 : Int) < n then (100 : Int) else n) else 1) = mx1
                    generalize (if (100 : Int) < n then (100 : Int) else n) = mx0
                    refine wpAnyH_take (i := 10) (v := .bool false) rfl (by kernel_rfl) (by kernel_rfl) (by kernel_rfl) (fun _ _ _ h => h) (.inl ⟨by rfl, fun W hW => ?_⟩) hS ?_
                    · obtain ⟨z0, z1, z2⟩ := hW; go_simp
                    simp only [Act.put, List.getElem_toArray, List.getElem_cons_succ, List.getElem_cons_zero, List.setIfInBounds_toArray, List.set_cons_zero, List.set_cons_succ]
                    refine wpAnyH_take (i := 11) (v := .bool false) rfl (by kernel_rfl) (by kernel_rfl) (by kernel_rfl) (fun _ _ _ h => h) (.inl ⟨by rfl, fun W hW => ?_⟩) hS ?_
                    · obtain ⟨z0, z1, z2⟩ := hW; go_simp
                    simp only [Act.put, List.getElem_toArray, List.getElem_cons_succ, List.getElem_cons_zero, List.setIfInBounds_toArray, List.set_cons_zero, List.set_cons_succ]
                    refine wpAnyH_take (i := 12) (v := .pointer (some ⟨wr.heap.size, 2, none⟩)) rfl (by kernel_rfl) (by kernel_rfl) (by kernel_rfl) (fun _ _ _ h => h) (.inl ⟨by rfl, fun W hW => ?_⟩) hS ?_
                    · obtain ⟨z0, z1, z2⟩ := hW; go_simp
                    simp only [Act.put, List.getElem_toArray, List.getElem_cons_succ, List.getElem_cons_zero, List.setIfInBounds_toArray, List.set_cons_zero, List.set_cons_succ]
                    refine wpAnyH_take (i := 13) (v := .int .i64 0) rfl (by kernel_rfl) (by kernel_rfl) (by kernel_rfl) (fun _ _ _ h => h) (.inl ⟨by rfl, fun W hW => ?_⟩) hS ?_
                    · obtain ⟨z0, z1, z2⟩ := hW; go_simp
                    simp only [Act.put, List.getElem_toArray, List.getElem_cons_succ, List.getElem_cons_zero, List.setIfInBounds_toArray, List.set_cons_zero, List.set_cons_succ]
                    refine wpAnyH_take (i := 14) (v := .bool false) rfl (by kernel_rfl) (by kernel_rfl) (by kernel_rfl) (fun _ _ _ h => h) (.inl ⟨by rfl, fun W hW => ?_⟩) hS ?_
                    · obtain ⟨z0, z1, z2⟩ := hW; go_simp
                    simp only [Act.put, List.getElem_toArray, List.getElem_cons_succ, List.getElem_cons_zero, List.setIfInBounds_toArray, List.set_cons_zero, List.set_cons_succ]
                    refine wpAnyH_take (i := 15) (v := .bool false) rfl (by kernel_rfl) (by kernel_rfl) (by kernel_rfl) (fun _ _ _ h => h) (.inl ⟨by rfl, fun W hW => ?_⟩) hS ?_
                    · obtain ⟨z0, z1, z2⟩ := hW; go_simp
                    simp only [Act.put, List.getElem_toArray, List.getElem_cons_succ, List.getElem_cons_zero, List.setIfInBounds_toArray, List.set_cons_zero, List.set_cons_succ]
                    refine wpAnyH_take (i := 16) (v := undef) rfl (by kernel_rfl) (by kernel_rfl) (by kernel_rfl) (fun _ _ _ h => h) (.inr ⟨by rfl, rfl⟩) hS ?_
                    simp only [Act.put, List.getElem_toArray, List.getElem_cons_succ, List.getElem_cons_zero, List.setIfInBounds_toArray, List.set_cons_zero, List.set_cons_succ]
                    refine wpAnyH_take (i := 17) (v := undef) rfl (by kernel_rfl) (by kernel_rfl) (by kernel_rfl) (fun _ _ _ h => h) (.inr ⟨by rfl, rfl⟩) hS ?_
                    simp only [Act.put, List.getElem_toArray, List.getElem_cons_succ, List.getElem_cons_zero, List.setIfInBounds_toArray, List.set_cons_zero, List.set_cons_succ]
                    refine wpAnyH_take (i := 18) (v := undef) rfl (by kernel_rfl) (by kernel_rfl) (by kernel_rfl) (fun _ _ _ h => h) (.inr ⟨by rfl, rfl⟩) hS ?_
                    simp only [Act.put, List.getElem_toArray, List.getElem_cons_succ, List.getElem_cons_zero, List.setIfInBounds_toArray, List.set_cons_zero, List.set_cons_succ]
                    refine wpAnyH_take (i := 19) (v := .bool false) rfl (by kernel_rfl) (by kernel_rfl) (by kernel_rfl) (fun _ _ _ h => h) (.inl ⟨by rfl, fun W hW => ?_⟩) hS ?_
                    · obtain ⟨z0, z1, z2⟩ := hW; go_simp
                    simp only [Act.put, List.getElem_toArray, List.getElem_cons_succ, List.getElem_cons_zero, List.setIfInBounds_toArray, List.set_cons_zero, List.set_cons_succ]
                    refine wpAnyH_take (i := 20) (v := .bool false) rfl (by kernel_rfl) (by kernel_rfl) (by kernel_rfl) (fun _ _ _ h => h) (.inl ⟨by rfl, fun W hW => ?_⟩) hS ?_
                    · obtain ⟨z0, z1, z2⟩ := hW; go_simp
                    simp only [Act.put, List.getElem_toArray, List.getElem_cons_succ, List.getElem_cons_zero, List.setIfInBounds_toArray, List.set_cons_zero, List.set_cons_succ]
                    refine wpAnyH_take (i := 21) (v := .bool false) rfl (by kernel_rfl) (by kernel_rfl) (by kernel_rfl) (fun _ _ _ h => h) (.inl ⟨by rfl, fun W hW => ?_⟩) hS ?_
                    · obtain ⟨z0, z1, z2⟩ := hW; go_simp
                    simp only [Act.put, List.getElem_toArray, List.getElem_cons_succ, List.getElem_cons_zero, List.setIfInBounds_toArray, List.set_cons_zero, List.set_cons_succ]
                    refine wpAnyH_take (i := 22) (v := .pointer (some ⟨wr.heap.size, 1, none⟩)) rfl (by kernel_rfl) (by kernel_rfl) (by kernel_rfl) (fun _ _ _ h => h) (.inl ⟨by rfl, fun W hW => ?_⟩) hS ?_
                    · obtain ⟨z0, z1, z2⟩ := hW; go_simp
                    simp only [Act.put, List.getElem_toArray, List.getElem_cons_succ, List.getElem_cons_zero, List.setIfInBounds_toArray, List.set_cons_zero, List.set_cons_succ]
                    refine wpAnyH_take (i := 23) (v := .int .i64 p.state) rfl (by kernel_rfl) (by kernel_rfl) (by kernel_rfl) (fun _ _ _ h => h) (.inl ⟨by rfl, fun W hW => ?_⟩) hS ?_
                    · obtain ⟨z0, z1, z2⟩ := hW; go_simp
                    simp only [Act.put, List.getElem_toArray, List.getElem_cons_succ, List.getElem_cons_zero, List.setIfInBounds_toArray, List.set_cons_zero, List.set_cons_succ]
                    refine wpAnyH_take (i := 24) (v := .bool false) rfl (by kernel_rfl) (by kernel_rfl) (by kernel_rfl) (fun _ _ _ h => h) (.inl ⟨by rfl, fun W hW => ?_⟩) hS ?_
                    · obtain ⟨z0, z1, z2⟩ := hW; go_simp
                    simp only [Act.put, List.getElem_toArray, List.getElem_cons_succ, List.getElem_cons_zero, List.setIfInBounds_toArray, List.set_cons_zero, List.set_cons_succ]
                    refine wpAnyH_take (i := 25) (v := .bool false) rfl (by kernel_rfl) (by kernel_rfl) (by kernel_rfl) (fun _ _ _ h => h) (.inl ⟨by rfl, fun W hW => ?_⟩) hS ?_
                    · obtain ⟨z0, z1, z2⟩ := hW; go_simp
                    simp only [Act.put, List.getElem_toArray, List.getElem_cons_succ, List.getElem_cons_zero, List.setIfInBounds_toArray, List.set_cons_zero, List.set_cons_succ]
                    refine wpAnyH_take (i := 26) (v := undef) rfl (by kernel_rfl) (by kernel_rfl) (by kernel_rfl) (fun _ _ _ h => h) (.inr ⟨by rfl, rfl⟩) hS ?_
                    simp only [Act.put, List.getElem_toArray, List.getElem_cons_succ, List.getElem_cons_zero, List.setIfInBounds_toArray, List.set_cons_zero, List.set_cons_succ]
                    refine wpAnyH_take (i := 27) (v := undef) rfl (by kernel_rfl) (by kernel_rfl) (by kernel_rfl) (fun _ _ _ h => h) (.inr ⟨by rfl, rfl⟩) hS ?_
                    simp only [Act.put, List.getElem_toArray, List.getElem_cons_succ, List.getElem_cons_zero, List.setIfInBounds_toArray, List.set_cons_zero, List.set_cons_succ]
                    refine wpAnyH_take (i := 28) (v := undef) rfl (by kernel_rfl) (by kernel_rfl) (by kernel_rfl) (fun _ _ _ h => h) (.inr ⟨by rfl, rfl⟩) hS ?_
                    simp only [Act.put, List.getElem_toArray, List.getElem_cons_succ, List.getElem_cons_zero, List.setIfInBounds_toArray, List.set_cons_zero, List.set_cons_succ]
                    refine wpAnyH_take (i := 29) (v := .bool false) rfl (by kernel_rfl) (by kernel_rfl) (by kernel_rfl) (fun _ _ _ h => h) (.inl ⟨by rfl, fun W hW => ?_⟩) hS ?_
                    · obtain ⟨z0, z1, z2⟩ := hW; go_simp
                    simp only [Act.put, List.getElem_toArray, List.getElem_cons_succ, List.getElem_cons_zero, List.setIfInBounds_toArray, List.set_cons_zero, List.set_cons_succ]
                    refine wpAnyH_take (i := 30) (v := .bool false) rfl (by kernel_rfl) (by kernel_rfl) (by kernel_rfl) (fun _ _ _ h => h) (.inl ⟨by rfl, fun W hW => ?_⟩) hS ?_
                    · obtain ⟨z0, z1, z2⟩ := hW; go_simp
                    simp only [Act.put, List.getElem_toArray, List.getElem_cons_succ, List.getElem_cons_zero, List.setIfInBounds_toArray, List.set_cons_zero, List.set_cons_succ]
                    refine wpAnyH_take (i := 31) (v := .bool false) rfl (by kernel_rfl) (by kernel_rfl) (by kernel_rfl) (fun _ _ _ h => h) (.inl ⟨by rfl, fun W hW => ?_⟩) hS ?_
                    · obtain ⟨z0, z1, z2⟩ := hW; go_simp
                    simp only [Act.put, List.getElem_toArray, List.getElem_cons_succ, List.getElem_cons_zero, List.setIfInBounds_toArray, List.set_cons_zero, List.set_cons_succ]
                    refine wpAnyH_take (i := 32) (v := .int .i64 ((m + 1 : Nat) : Int)) rfl (by kernel_rfl) (by kernel_rfl) (by kernel_rfl) (fun _ _ _ h => h) (.inl ⟨by rfl, fun W hW => ?_⟩) hS ?_
                    · obtain ⟨z0, z1, z2⟩ := hW; go_simp
                    simp only [Act.put, List.getElem_toArray, List.getElem_cons_succ, List.getElem_cons_zero, List.setIfInBounds_toArray, List.set_cons_zero, List.set_cons_succ]
                    refine wpAnyH_take (i := 33) (v := .bool true) rfl (by kernel_rfl) (by kernel_rfl) (by kernel_rfl) (fun _ _ _ h => h) (.inl ⟨by rfl, fun W hW => ?_⟩) hS ?_
                    · obtain ⟨z0, z1, z2⟩ := hW; go_simp
                    simp only [Act.put, List.getElem_toArray, List.getElem_cons_succ, List.getElem_cons_zero, List.setIfInBounds_toArray, List.set_cons_zero, List.set_cons_succ]
                    refine wpAnyH_take (i := 34) (v := .bool true) rfl (by kernel_rfl) (by kernel_rfl) (by kernel_rfl) (fun _ _ _ h => h) (.inl ⟨by rfl, fun W hW => ?_⟩) hS ?_
                    · obtain ⟨z0, z1, z2⟩ := hW; go_simp
                    simp only [Act.put, List.getElem_toArray, List.getElem_cons_succ, List.getElem_cons_zero, List.setIfInBounds_toArray, List.set_cons_zero, List.set_cons_succ]
                    refine wpAnyH_take (i := 35) (v := .pointer (some ⟨g, 0, none⟩)) rfl (by kernel_rfl) (by kernel_rfl) (by kernel_rfl) (fun _ _ _ h => h) (.inl ⟨by rfl, fun W hW => ?_⟩) hS ?_
                    · obtain ⟨z0, z1, z2⟩ := hW; go_simp
                    simp only [Act.put, List.getElem_toArray, List.getElem_cons_succ, List.getElem_cons_zero, List.setIfInBounds_toArray, List.set_cons_zero, List.set_cons_succ]
                    refine wpAnyH_take (i := 37) (v := .int .i64 ((m + 1 : Nat) : Int)) rfl (by kernel_rfl) (by kernel_rfl) (by kernel_rfl) (fun _ _ _ h => h) (.inl ⟨by rfl, fun W hW => ?_⟩) hS ?_
                    · obtain ⟨z0, z1, z2⟩ := hW; go_simp
                    simp only [Act.put, List.getElem_toArray, List.getElem_cons_succ, List.getElem_cons_zero, List.setIfInBounds_toArray, List.set_cons_zero, List.set_cons_succ]
                    refine wpAnyH_take (i := 38) (v := .int .i64 (m : Int)) rfl (by kernel_rfl) (by kernel_rfl) (by kernel_rfl) (fun _ _ _ h => h) (.inl ⟨by rfl, fun W hW => ?_⟩) hS ?_
                    · obtain ⟨z0, z1, z2⟩ := hW; go_simp
                    simp only [Act.put, List.getElem_toArray, List.getElem_cons_succ, List.getElem_cons_zero, List.setIfInBounds_toArray, List.set_cons_zero, List.set_cons_succ]
                    refine wpAnyH_take (i := 42) (v := .pointer (some ⟨wr.heap.size, 0, none⟩)) rfl (by kernel_rfl) (by kernel_rfl) (by kernel_rfl) (fun _ _ _ h => h) (.inl ⟨by rfl, fun W hW => ?_⟩) hS ?_
                    · obtain ⟨z0, z1, z2⟩ := hW; go_simp
                    simp only [Act.put, List.getElem_toArray, List.getElem_cons_succ, List.getElem_cons_zero, List.setIfInBounds_toArray, List.set_cons_zero, List.set_cons_succ]
                    refine wpAnyH_take (i := 43) (v := .int .i64 p.id) rfl (by kernel_rfl) (by kernel_rfl) (by kernel_rfl) (fun _ _ _ h => h) (.inl ⟨by rfl, fun W hW => ?_⟩) hS ?_
                    · obtain ⟨z0, z1, z2⟩ := hW; go_simp
                    simp only [Act.put, List.getElem_toArray, List.getElem_cons_succ, List.getElem_cons_zero, List.setIfInBounds_toArray, List.set_cons_zero, List.set_cons_succ]
                    refine wpAnyH_ready (rs := [36]) (by kernel_rfl) (by simp) (AllReadyH.cons rfl (fun K hK => ?_) AllReadyH.nil)
                    go_simp
                    refine (fleAll S' g v' L' last' _ _ HPW.out.drew).mono ?_
                    rintro e w5 ⟨u5, rfl, o5, b5⟩
                    obtain ⟨b6, cap6, rfl, _, d0, _, _⟩ := row_pod o5 hp'
                    have X5 := HXp.out.drew.below b5 HXp.out.drew.inside
                    have hS2 : (fun w' : World => w'.cell? ⟨wr.heap.size, 0, none⟩ = some (.int .i64 p.id) ∧ w'.cell? ⟨wr.heap.size, 1, none⟩ = some (.int .i64 p.state) ∧ w'.cell? ⟨wr.heap.size, 2, none⟩ = some (.int .i64 0)) w5 := ⟨X5.here (i := 0) rfl, X5.here (i := 1) rfl, by rw [X5.here (i := 2) rfl, HEq.out] <;> rfl⟩
                    clear X5
                    go_wp2_with fail
                    refine hK.out _ _ hS2 (fun _ => ?_)
                    clear hK K hS
                    refine wpAnyH_take (i := 39) (v := .pointer (some ⟨b6, m * 3, none⟩)) rfl (by kernel_rfl) (by kernel_rfl) (by kernel_rfl) (fun _ _ _ h => h) (.inl ⟨by rfl, fun W hW => ?_⟩) hS2 ?_
                    · obtain ⟨z0, z1, z2⟩ := hW; go_simp
                    simp only [Act.put, List.getElem_toArray, List.getElem_cons_succ, List.getElem_cons_zero, List.setIfInBounds_toArray, List.set_cons_zero, List.set_cons_succ]
                    refine wpAnyH_take (i := 40) (v := .pointer (some ⟨b6, m * 3, none⟩)) rfl (by kernel_rfl) (by kernel_rfl) (by kernel_rfl) (fun _ _ _ h => h) (.inl ⟨by rfl, fun W hW => ?_⟩) hS2 ?_
                    · obtain ⟨z0, z1, z2⟩ := hW; go_simp
                    simp only [Act.put, List.getElem_toArray, List.getElem_cons_succ, List.getElem_cons_zero, List.setIfInBounds_toArray, List.set_cons_zero, List.set_cons_succ]
                    refine wpAnyH_ready (rs := [41]) (by kernel_rfl) (by simp) (AllReadyH.cons rfl (fun K hK => ?_) AllReadyH.nil)
                    go_simp
                    refine hK.out _ _ hS2 (fun _ => ?_)
                    clear hK K
                    refine wpAnyH_take (i := 44) (v := .bool false) rfl (by kernel_rfl) (by kernel_rfl) (by kernel_rfl) (fun _ _ _ h => h) (.inl ⟨by rfl, fun W hW => ?_⟩) hS2 ?_
                    · obtain ⟨z0, z1, z2⟩ := hW; go_simp
                    simp only [Act.put, List.getElem_toArray, List.getElem_cons_succ, List.getElem_cons_zero, List.setIfInBounds_toArray, List.set_cons_zero, List.set_cons_succ]
                    try simp only [hdl]
                    refine wpAnyH_take (i := 45) (v := .bool false) rfl (by kernel_rfl) (by kernel_rfl) (by kernel_rfl) (fun _ _ _ h => h) (.inl ⟨by rfl, fun W hW => ?_⟩) hS2 ?_
                    · obtain ⟨z0, z1, z2⟩ := hW; go_simp
                    simp only [Act.put, List.getElem_toArray, List.getElem_cons_succ, List.getElem_cons_zero, List.setIfInBounds_toArray, List.set_cons_zero, List.set_cons_succ]
                    refine wpAnyH_take (i := 46) (v := .bool false) rfl (by kernel_rfl) (by kernel_rfl) (by kernel_rfl) (fun _ _ _ h => h) (.inl ⟨by rfl, fun W hW => ?_⟩) hS2 ?_
                    · obtain ⟨z0, z1, z2⟩ := hW; go_simp
                    simp only [Act.put, List.getElem_toArray, List.getElem_cons_succ, List.getElem_cons_zero, List.setIfInBounds_toArray, List.set_cons_zero, List.set_cons_succ]
                    refine wpAnyH_done (by kernel_rfl) ?_ _
                    have HBz := Lib.hid (HBn.out.drew.trans (b5.mono HBn.out.drew.size))
                    clear o5 b5 d0 hS2
                    go_wp2_with fail
                    all_goals (go_meet; exact ⟨rfl, HBz⟩)
              · have HEq := Lib.hid q2
                rw [q2] at x1 y1
                clear q2
                cases t with
                | zero =>
                  as_aux_lemma =>
                    go_wp2_with fail
                    have hS : (fun w' : World => w'.cell? ⟨wr.heap.size, 0, none⟩ = some (.int .i64 p.id) ∧ w'.cell? ⟨wr.heap.size, 1, none⟩ = some (.int .i64 3) ∧ w'.cell? ⟨wr.heap.size, 2, none⟩ = some (.int .i64 p.load)) W.drew := ⟨y0, y1, y2⟩
                    refine wp_region_held_drew (S := (fun w' : World => w'.cell? ⟨wr.heap.size, 0, none⟩ = some (.int .i64 p.id) ∧ w'.cell? ⟨wr.heap.size, 1, none⟩ = some (.int .i64 3) ∧ w'.cell? ⟨wr.heap.size, 2, none⟩ = some (.int .i64 p.load))) (by kernel_rfl) hS (fun _ => ?_)
                    change wpAnyH _ _ _ _ _ 47 #[false, false, false, false, false, false, false, false, false, false, false, false, false, false, false, false, false, false, false, false, false, false, false, false, false, false, false, false, false, false, false, false, false, false, false, false, false, false, false, false, false, false, false, false, false, false, false] _ (World.drew _)
                    refine wpAnyH_take (i := 0) (v := .pointer (some ⟨wr.heap.size, 2, none⟩)) rfl (by kernel_rfl) (by kernel_rfl) (by kernel_rfl) (fun _ _ _ h => h) (.inl ⟨by rfl, fun W hW => ?_⟩) hS ?_
                    · obtain ⟨z0, z1, z2⟩ := hW; go_simp
                    simp only [Act.put, List.getElem_toArray, List.getElem_cons_succ, List.getElem_cons_zero, List.setIfInBounds_toArray, List.set_cons_zero, List.set_cons_succ]
                    refine wpAnyH_take (i := 1) (v := .int .i64 p.load) rfl (by kernel_rfl) (by kernel_rfl) (by kernel_rfl) (fun _ _ _ h => h) (.inl ⟨by rfl, fun W hW => ?_⟩) hS ?_
                    · obtain ⟨z0, z1, z2⟩ := hW; go_simp
                    simp only [Act.put, List.getElem_toArray, List.getElem_cons_succ, List.getElem_cons_zero, List.setIfInBounds_toArray, List.set_cons_zero, List.set_cons_succ]
                    refine wpAnyH_take (i := 2) (v := .bool false) rfl (by kernel_rfl) (by kernel_rfl) (by kernel_rfl) (fun _ _ _ h => h) (.inl ⟨by rfl, fun W hW => ?_⟩) hS ?_
                    · obtain ⟨z0, z1, z2⟩ := hW; go_simp
                    simp only [Act.put, List.getElem_toArray, List.getElem_cons_succ, List.getElem_cons_zero, List.setIfInBounds_toArray, List.set_cons_zero, List.set_cons_succ]
                    refine wpAnyH_take (i := 3) (v := .bool false) rfl (by kernel_rfl) (by kernel_rfl) (by kernel_rfl) (fun _ _ _ h => h) (.inl ⟨by rfl, fun W hW => ?_⟩) hS ?_
                    · obtain ⟨z0, z1, z2⟩ := hW; go_simp
                    simp only [Act.put, List.getElem_toArray, List.getElem_cons_succ, List.getElem_cons_zero, List.setIfInBounds_toArray, List.set_cons_zero, List.set_cons_succ]
                    refine wpAnyH_take (i := 4) (v := .pointer (some ⟨wr.heap.size, 2, none⟩)) rfl (by kernel_rfl) (by kernel_rfl) (by kernel_rfl) (fun _ _ _ h => h) (.inl ⟨by rfl, fun W hW => ?_⟩) hS ?_
                    · obtain ⟨z0, z1, z2⟩ := hW; go_simp
                    simp only [Act.put, List.getElem_toArray, List.getElem_cons_succ, List.getElem_cons_zero, List.setIfInBounds_toArray, List.set_cons_zero, List.set_cons_succ]
                    refine wpAnyH_take (i := 5) (v := .int .i64 p.load) rfl (by kernel_rfl) (by kernel_rfl) (by kernel_rfl) (fun _ _ _ h => h) (.inl ⟨by rfl, fun W hW => ?_⟩) hS ?_
                    · obtain ⟨z0, z1, z2⟩ := hW; go_simp
                    simp only [Act.put, List.getElem_toArray, List.getElem_cons_succ, List.getElem_cons_zero, List.setIfInBounds_toArray, List.set_cons_zero, List.set_cons_succ]
                    refine wpAnyH_take (i := 6) (v := .int .i64 n) rfl (by kernel_rfl) (by kernel_rfl) (by kernel_rfl) (fun _ _ _ h => h) (.inl ⟨by rfl, fun W hW => ?_⟩) hS ?_
                    · obtain ⟨z0, z1, z2⟩ := hW; go_simp
                    simp only [Act.put, List.getElem_toArray, List.getElem_cons_succ, List.getElem_cons_zero, List.setIfInBounds_toArray, List.set_cons_zero, List.set_cons_succ]
                    refine wpAnyH_take (i := 7) (v := .int .i64 (if (100 : Int) < n then (100 : Int) else n)) rfl (by kernel_rfl) (by kernel_rfl) (by kernel_rfl) (fun _ _ _ h => h) (.inl ⟨by rfl, fun W hW => ?_⟩) hS ?_
                    · obtain ⟨z0, z1, z2⟩ := hW; go_simp
                    simp only [Act.put, List.getElem_toArray, List.getElem_cons_succ, List.getElem_cons_zero, List.setIfInBounds_toArray, List.set_cons_zero, List.set_cons_succ]
                    refine wpAnyH_take (i := 8) (v := .int .i64 (if (1 : Int) < (if (100 : Int) < n then (100 : Int) else n) then (if (100 : Int) < n then (100 : Int) else n) else 1)) rfl (by kernel_rfl) (by kernel_rfl) (by kernel_rfl) (fun _ _ _ h => h) (.inl ⟨by rfl, fun W hW => ?_⟩) hS ?_
                    · obtain ⟨z0, z1, z2⟩ := hW; go_simp
                    simp only [Act.put, List.getElem_toArray, List.getElem_cons_succ, List.getElem_cons_zero, List.setIfInBounds_toArray, List.set_cons_zero, List.set_cons_succ]
                    refine wpAnyH_take (i := 9) (v := .bool (decide ((if (1 : Int) < (if (100 : Int) < n then (100 : Int) else n) then (if (100 : Int) < n then (100 : Int) else n) else 1) < p.load))) rfl (by kernel_rfl) (by kernel_rfl) (by kernel_rfl) (fun _ _ _ h => h) (.inl ⟨by rfl, fun W hW => ?_⟩) hS ?_
                    · obtain ⟨z0, z1, z2⟩ := hW; go_simp
                    simp only [Act.put, List.getElem_toArray, List.getElem_cons_succ, List.getElem_cons_zero, List.setIfInBounds_toArray, List.set_cons_zero, List.set_cons_succ]
                    rw [hmx]
                    generalize (if (1 : Int) < (if (100 : Int) < n then (100 : Int) else n) then (if (100 : Int) < n then (100 : Int) else n) else 1) = mx1
                    generalize (if (100 : Int) < n then (100 : Int) else n) = mx0
                    refine wpAnyH_take (i := 10) (v := .bool false) rfl (by kernel_rfl) (by kernel_rfl) (by kernel_rfl) (fun _ _ _ h => h) (.inl ⟨by rfl, fun W hW => ?_⟩) hS ?_
                    · obtain ⟨z0, z1, z2⟩ := hW; go_simp
                    simp only [Act.put, List.getElem_toArray, List.getElem_cons_succ, List.getElem_cons_zero, List.setIfInBounds_toArray, List.set_cons_zero, List.set_cons_succ]
                    refine wpAnyH_take (i := 11) (v := .bool false) rfl (by kernel_rfl) (by kernel_rfl) (by kernel_rfl) (fun _ _ _ h => h) (.inl ⟨by rfl, fun W hW => ?_⟩) hS ?_
                    · obtain ⟨z0, z1, z2⟩ := hW; go_simp
                    simp only [Act.put, List.getElem_toArray, List.getElem_cons_succ, List.getElem_cons_zero, List.setIfInBounds_toArray, List.set_cons_zero, List.set_cons_succ]
                    refine wpAnyH_take (i := 12) (v := .pointer (some ⟨wr.heap.size, 2, none⟩)) rfl (by kernel_rfl) (by kernel_rfl) (by kernel_rfl) (fun _ _ _ h => h) (.inl ⟨by rfl, fun W hW => ?_⟩) hS ?_
                    · obtain ⟨z0, z1, z2⟩ := hW; go_simp
                    simp only [Act.put, List.getElem_toArray, List.getElem_cons_succ, List.getElem_cons_zero, List.setIfInBounds_toArray, List.set_cons_zero, List.set_cons_succ]
                    refine wpAnyH_take (i := 13) (v := .int .i64 p.load) rfl (by kernel_rfl) (by kernel_rfl) (by kernel_rfl) (fun _ _ _ h => h) (.inl ⟨by rfl, fun W hW => ?_⟩) hS ?_
                    · obtain ⟨z0, z1, z2⟩ := hW; go_simp
                    simp only [Act.put, List.getElem_toArray, List.getElem_cons_succ, List.getElem_cons_zero, List.setIfInBounds_toArray, List.set_cons_zero, List.set_cons_succ]
                    refine wpAnyH_take (i := 14) (v := .bool true) rfl (by kernel_rfl) (by kernel_rfl) (by kernel_rfl) (fun _ _ _ h => h) (.inl ⟨by rfl, fun W hW => ?_⟩) hS ?_
                    · obtain ⟨z0, z1, z2⟩ := hW; go_simp
                    simp only [Act.put, List.getElem_toArray, List.getElem_cons_succ, List.getElem_cons_zero, List.setIfInBounds_toArray, List.set_cons_zero, List.set_cons_succ]
                    refine wpAnyH_take (i := 15) (v := .bool true) rfl (by kernel_rfl) (by kernel_rfl) (by kernel_rfl) (fun _ _ _ h => h) (.inl ⟨by rfl, fun W hW => ?_⟩) hS ?_
                    · obtain ⟨z0, z1, z2⟩ := hW; go_simp
                    simp only [Act.put, List.getElem_toArray, List.getElem_cons_succ, List.getElem_cons_zero, List.setIfInBounds_toArray, List.set_cons_zero, List.set_cons_succ]
                    refine wpAnyH_take (i := 16) (v := .pointer (some ⟨wr.heap.size, 1, none⟩)) rfl (by kernel_rfl) (by kernel_rfl) (by kernel_rfl) (fun _ _ _ h => h) (.inl ⟨by rfl, fun W hW => ?_⟩) hS ?_
                    · obtain ⟨z0, z1, z2⟩ := hW; go_simp
                    simp only [Act.put, List.getElem_toArray, List.getElem_cons_succ, List.getElem_cons_zero, List.setIfInBounds_toArray, List.set_cons_zero, List.set_cons_succ]
                    refine wpAnyH_take (i := 17) (v := .int .i64 3) rfl (by kernel_rfl) (by kernel_rfl) (by kernel_rfl) (fun _ _ _ h => h) (.inl ⟨by rfl, fun W hW => ?_⟩) hS ?_
                    · obtain ⟨z0, z1, z2⟩ := hW; go_simp
                    simp only [Act.put, List.getElem_toArray, List.getElem_cons_succ, List.getElem_cons_zero, List.setIfInBounds_toArray, List.set_cons_zero, List.set_cons_succ]
                    refine wpAnyH_take (i := 18) (v := .bool false) rfl (by kernel_rfl) (by kernel_rfl) (by kernel_rfl) (fun _ _ _ h => h) (.inl ⟨by rfl, fun W hW => ?_⟩) hS ?_
                    · obtain ⟨z0, z1, z2⟩ := hW; go_simp
                    simp only [Act.put, List.getElem_toArray, List.getElem_cons_succ, List.getElem_cons_zero, List.setIfInBounds_toArray, List.set_cons_zero, List.set_cons_succ]
                    refine wpAnyH_take (i := 19) (v := .bool false) rfl (by kernel_rfl) (by kernel_rfl) (by kernel_rfl) (fun _ _ _ h => h) (.inl ⟨by rfl, fun W hW => ?_⟩) hS ?_
                    · obtain ⟨z0, z1, z2⟩ := hW; go_simp
                    simp only [Act.put, List.getElem_toArray, List.getElem_cons_succ, List.getElem_cons_zero, List.setIfInBounds_toArray, List.set_cons_zero, List.set_cons_succ]
                    refine wpAnyH_take (i := 20) (v := .bool false) rfl (by kernel_rfl) (by kernel_rfl) (by kernel_rfl) (fun _ _ _ h => h) (.inl ⟨by rfl, fun W hW => ?_⟩) hS ?_
                    · obtain ⟨z0, z1, z2⟩ := hW; go_simp
                    simp only [Act.put, List.getElem_toArray, List.getElem_cons_succ, List.getElem_cons_zero, List.setIfInBounds_toArray, List.set_cons_zero, List.set_cons_succ]
                    refine wpAnyH_take (i := 21) (v := .bool false) rfl (by kernel_rfl) (by kernel_rfl) (by kernel_rfl) (fun _ _ _ h => h) (.inl ⟨by rfl, fun W hW => ?_⟩) hS ?_
                    · obtain ⟨z0, z1, z2⟩ := hW; go_simp
                    simp only [Act.put, List.getElem_toArray, List.getElem_cons_succ, List.getElem_cons_zero, List.setIfInBounds_toArray, List.set_cons_zero, List.set_cons_succ]
                    refine wpAnyH_take (i := 22) (v := .pointer (some ⟨wr.heap.size, 1, none⟩)) rfl (by kernel_rfl) (by kernel_rfl) (by kernel_rfl) (fun _ _ _ h => h) (.inl ⟨by rfl, fun W hW => ?_⟩) hS ?_
                    · obtain ⟨z0, z1, z2⟩ := hW; go_simp
                    simp only [Act.put, List.getElem_toArray, List.getElem_cons_succ, List.getElem_cons_zero, List.setIfInBounds_toArray, List.set_cons_zero, List.set_cons_succ]
                    refine wpAnyH_take (i := 23) (v := .int .i64 3) rfl (by kernel_rfl) (by kernel_rfl) (by kernel_rfl) (fun _ _ _ h => h) (.inl ⟨by rfl, fun W hW => ?_⟩) hS ?_
                    · obtain ⟨z0, z1, z2⟩ := hW; go_simp
                    simp only [Act.put, List.getElem_toArray, List.getElem_cons_succ, List.getElem_cons_zero, List.setIfInBounds_toArray, List.set_cons_zero, List.set_cons_succ]
                    refine wpAnyH_take (i := 24) (v := .bool false) rfl (by kernel_rfl) (by kernel_rfl) (by kernel_rfl) (fun _ _ _ h => h) (.inl ⟨by rfl, fun W hW => ?_⟩) hS ?_
                    · obtain ⟨z0, z1, z2⟩ := hW; go_simp
                    simp only [Act.put, List.getElem_toArray, List.getElem_cons_succ, List.getElem_cons_zero, List.setIfInBounds_toArray, List.set_cons_zero, List.set_cons_succ]
                    refine wpAnyH_take (i := 25) (v := .bool false) rfl (by kernel_rfl) (by kernel_rfl) (by kernel_rfl) (fun _ _ _ h => h) (.inl ⟨by rfl, fun W hW => ?_⟩) hS ?_
                    · obtain ⟨z0, z1, z2⟩ := hW; go_simp
                    simp only [Act.put, List.getElem_toArray, List.getElem_cons_succ, List.getElem_cons_zero, List.setIfInBounds_toArray, List.set_cons_zero, List.set_cons_succ]
                    refine wpAnyH_take (i := 26) (v := undef) rfl (by kernel_rfl) (by kernel_rfl) (by kernel_rfl) (fun _ _ _ h => h) (.inr ⟨by rfl, rfl⟩) hS ?_
                    simp only [Act.put, List.getElem_toArray, List.getElem_cons_succ, List.getElem_cons_zero, List.setIfInBounds_toArray, List.set_cons_zero, List.set_cons_succ]
                    refine wpAnyH_take (i := 27) (v := undef) rfl (by kernel_rfl) (by kernel_rfl) (by kernel_rfl) (fun _ _ _ h => h) (.inr ⟨by rfl, rfl⟩) hS ?_
                    simp only [Act.put, List.getElem_toArray, List.getElem_cons_succ, List.getElem_cons_zero, List.setIfInBounds_toArray, List.set_cons_zero, List.set_cons_succ]
                    refine wpAnyH_take (i := 28) (v := undef) rfl (by kernel_rfl) (by kernel_rfl) (by kernel_rfl) (fun _ _ _ h => h) (.inr ⟨by rfl, rfl⟩) hS ?_
                    simp only [Act.put, List.getElem_toArray, List.getElem_cons_succ, List.getElem_cons_zero, List.setIfInBounds_toArray, List.set_cons_zero, List.set_cons_succ]
                    refine wpAnyH_take (i := 29) (v := .bool false) rfl (by kernel_rfl) (by kernel_rfl) (by kernel_rfl) (fun _ _ _ h => h) (.inl ⟨by rfl, fun W hW => ?_⟩) hS ?_
                    · obtain ⟨z0, z1, z2⟩ := hW; go_simp
                    simp only [Act.put, List.getElem_toArray, List.getElem_cons_succ, List.getElem_cons_zero, List.setIfInBounds_toArray, List.set_cons_zero, List.set_cons_succ]
                    refine wpAnyH_take (i := 30) (v := .bool false) rfl (by kernel_rfl) (by kernel_rfl) (by kernel_rfl) (fun _ _ _ h => h) (.inl ⟨by rfl, fun W hW => ?_⟩) hS ?_
                    · obtain ⟨z0, z1, z2⟩ := hW; go_simp
                    simp only [Act.put, List.getElem_toArray, List.getElem_cons_succ, List.getElem_cons_zero, List.setIfInBounds_toArray, List.set_cons_zero, List.set_cons_succ]
                    refine wpAnyH_take (i := 31) (v := .bool false) rfl (by kernel_rfl) (by kernel_rfl) (by kernel_rfl) (fun _ _ _ h => h) (.inl ⟨by rfl, fun W hW => ?_⟩) hS ?_
                    · obtain ⟨z0, z1, z2⟩ := hW; go_simp
                    simp only [Act.put, List.getElem_toArray, List.getElem_cons_succ, List.getElem_cons_zero, List.setIfInBounds_toArray, List.set_cons_zero, List.set_cons_succ]
                    refine wpAnyH_take (i := 32) (v := .int .i64 ((0 : Nat) : Int)) rfl (by kernel_rfl) (by kernel_rfl) (by kernel_rfl) (fun _ _ _ h => h) (.inl ⟨by rfl, fun W hW => ?_⟩) hS ?_
                    · obtain ⟨z0, z1, z2⟩ := hW; go_simp
                    simp only [Act.put, List.getElem_toArray, List.getElem_cons_succ, List.getElem_cons_zero, List.setIfInBounds_toArray, List.set_cons_zero, List.set_cons_succ]
                    refine wpAnyH_take (i := 33) (v := .bool false) rfl (by kernel_rfl) (by kernel_rfl) (by kernel_rfl) (fun _ _ _ h => h) (.inl ⟨by rfl, fun W hW => ?_⟩) hS ?_
                    · obtain ⟨z0, z1, z2⟩ := hW; go_simp
                    simp only [Act.put, List.getElem_toArray, List.getElem_cons_succ, List.getElem_cons_zero, List.setIfInBounds_toArray, List.set_cons_zero, List.set_cons_succ]
                    refine wpAnyH_take (i := 34) (v := .bool false) rfl (by kernel_rfl) (by kernel_rfl) (by kernel_rfl) (fun _ _ _ h => h) (.inl ⟨by rfl, fun W hW => ?_⟩) hS ?_
                    · obtain ⟨z0, z1, z2⟩ := hW; go_simp
                    simp only [Act.put, List.getElem_toArray, List.getElem_cons_succ, List.getElem_cons_zero, List.setIfInBounds_toArray, List.set_cons_zero, List.set_cons_succ]
                    refine wpAnyH_take (i := 35) (v := undef) rfl (by kernel_rfl) (by kernel_rfl) (by kernel_rfl) (fun _ _ _ h => h) (.inr ⟨by rfl, rfl⟩) hS ?_
                    simp only [Act.put, List.getElem_toArray, List.getElem_cons_succ, List.getElem_cons_zero, List.setIfInBounds_toArray, List.set_cons_zero, List.set_cons_succ]
                    refine wpAnyH_take (i := 36) (v := undef) rfl (by kernel_rfl) (by kernel_rfl) (by kernel_rfl) (fun _ _ _ h => h) (.inr ⟨by rfl, rfl⟩) hS ?_
                    simp only [Act.put, List.getElem_toArray, List.getElem_cons_succ, List.getElem_cons_zero, List.setIfInBounds_toArray, List.set_cons_zero, List.set_cons_succ]
                    refine wpAnyH_take (i := 37) (v := undef) rfl (by kernel_rfl) (by kernel_rfl) (by kernel_rfl) (fun _ _ _ h => h) (.inr ⟨by rfl, rfl⟩) hS ?_
                    simp only [Act.put, List.getElem_toArray, List.getElem_cons_succ, List.getElem_cons_zero, List.setIfInBounds_toArray, List.set_cons_zero, List.set_cons_succ]
                    refine wpAnyH_take (i := 38) (v := undef) rfl (by kernel_rfl) (by kernel_rfl) (by kernel_rfl) (fun _ _ _ h => h) (.inr ⟨by rfl, rfl⟩) hS ?_
                    simp only [Act.put, List.getElem_toArray, List.getElem_cons_succ, List.getElem_cons_zero, List.setIfInBounds_toArray, List.set_cons_zero, List.set_cons_succ]
                    refine wpAnyH_take (i := 39) (v := undef) rfl (by kernel_rfl) (by kernel_rfl) (by kernel_rfl) (fun _ _ _ h => h) (.inr ⟨by rfl, rfl⟩) hS ?_
                    simp only [Act.put, List.getElem_toArray, List.getElem_cons_succ, List.getElem_cons_zero, List.setIfInBounds_toArray, List.set_cons_zero, List.set_cons_succ]
                    refine wpAnyH_take (i := 40) (v := undef) rfl (by kernel_rfl) (by kernel_rfl) (by kernel_rfl) (fun _ _ _ h => h) (.inr ⟨by rfl, rfl⟩) hS ?_
                    simp only [Act.put, List.getElem_toArray, List.getElem_cons_succ, List.getElem_cons_zero, List.setIfInBounds_toArray, List.set_cons_zero, List.set_cons_succ]
                    refine wpAnyH_take (i := 41) (v := undef) rfl (by kernel_rfl) (by kernel_rfl) (by kernel_rfl) (fun _ _ _ h => h) (.inr ⟨by rfl, rfl⟩) hS ?_
                    simp only [Act.put, List.getElem_toArray, List.getElem_cons_succ, List.getElem_cons_zero, List.setIfInBounds_toArray, List.set_cons_zero, List.set_cons_succ]
                    refine wpAnyH_take (i := 42) (v := undef) rfl (by kernel_rfl) (by kernel_rfl) (by kernel_rfl) (fun _ _ _ h => h) (.inr ⟨by rfl, rfl⟩) hS ?_
                    simp only [Act.put, List.getElem_toArray, List.getElem_cons_succ, List.getElem_cons_zero, List.setIfInBounds_toArray, List.set_cons_zero, List.set_cons_succ]
                    refine wpAnyH_take (i := 43) (v := undef) rfl (by kernel_rfl) (by kernel_rfl) (by kernel_rfl) (fun _ _ _ h => h) (.inr ⟨by rfl, rfl⟩) hS ?_
                    simp only [Act.put, List.getElem_toArray, List.getElem_cons_succ, List.getElem_cons_zero, List.setIfInBounds_toArray, List.set_cons_zero, List.set_cons_succ]
                    refine wpAnyH_take (i := 44) (v := undef) rfl (by kernel_rfl) (by kernel_rfl) (by kernel_rfl) (fun _ _ _ h => h) (.inr ⟨by rfl, rfl⟩) hS ?_
                    simp only [Act.put, List.getElem_toArray, List.getElem_cons_succ, List.getElem_cons_zero, List.setIfInBounds_toArray, List.set_cons_zero, List.set_cons_succ]
                    refine wpAnyH_take (i := 45) (v := .bool false) rfl (by kernel_rfl) (by kernel_rfl) (by kernel_rfl) (fun _ _ _ h => h) (.inl ⟨by rfl, fun W hW => ?_⟩) hS ?_
                    · obtain ⟨z0, z1, z2⟩ := hW; go_simp
                    simp only [Act.put, List.getElem_toArray, List.getElem_cons_succ, List.getElem_cons_zero, List.setIfInBounds_toArray, List.set_cons_zero, List.set_cons_succ]
                    refine wpAnyH_take (i := 46) (v := .bool false) rfl (by kernel_rfl) (by kernel_rfl) (by kernel_rfl) (fun _ _ _ h => h) (.inl ⟨by rfl, fun W hW => ?_⟩) hS ?_
                    · obtain ⟨z0, z1, z2⟩ := hW; go_simp
                    simp only [Act.put, List.getElem_toArray, List.getElem_cons_succ, List.getElem_cons_zero, List.setIfInBounds_toArray, List.set_cons_zero, List.set_cons_succ]
                    refine wpAnyH_done (by kernel_rfl) ?_ _
                    clear hS
                    go_wp2_with fail
                    all_goals (go_meet; exact ⟨rfl, Lib.hid HBn.out.drew⟩)
                | succ m =>
                  as_aux_lemma =>
                    obtain ⟨p', hp'⟩ := Tide.get_some L' (show m < L'.length by omega)
                    have hlt' := Tide.up_get HP4.out.crew.up (show m < m + 1 by omega) HHp.out hp'
                    have hdl : decide (p.id ≤ p'.id) = false := decide_eq_false (by omega)
                    have m0 : (0 : Int) ≤ (m : Int) := by omega
                    have m1 : (m : Int) < (L'.length : Int) := by omega
                    have hw : IntKind.i64.wrap (((m + 1 : Nat) : Int) - 1) = (m : Int) := by rw [IntWalk.i64_in _ (by omega)]; omega
                    have hw2 : IntKind.i64.wrap (m : Int) = (m : Int) := IntWalk.i64_in _ (by omega)
                    have mz : (0 : Int) < ((m + 1 : Nat) : Int) := by omega
                    clear hlt'
                    have HPW := Lib.hid (HP4.out.fle.below HBn.out)
                    go_wp2_with fail
                    have hS : (fun w' : World => w'.cell? ⟨wr.heap.size, 0, none⟩ = some (.int .i64 p.id) ∧ w'.cell? ⟨wr.heap.size, 1, none⟩ = some (.int .i64 3) ∧ w'.cell? ⟨wr.heap.size, 2, none⟩ = some (.int .i64 p.load)) W.drew := ⟨y0, y1, y2⟩
                    refine wp_region_held_drew (S := (fun w' : World => w'.cell? ⟨wr.heap.size, 0, none⟩ = some (.int .i64 p.id) ∧ w'.cell? ⟨wr.heap.size, 1, none⟩ = some (.int .i64 3) ∧ w'.cell? ⟨wr.heap.size, 2, none⟩ = some (.int .i64 p.load))) (by kernel_rfl) hS (fun _ => ?_)
                    change wpAnyH _ _ _ _ _ 47 #[false, false, false, false, false, false, false, false, false, false, false, false, false, false, false, false, false, false, false, false, false, false, false, false, false, false, false, false, false, false, false, false, false, false, false, false, false, false, false, false, false, false, false, false, false, false, false] _ (World.drew _)
                    refine wpAnyH_take (i := 0) (v := .pointer (some ⟨wr.heap.size, 2, none⟩)) rfl (by kernel_rfl) (by kernel_rfl) (by kernel_rfl) (fun _ _ _ h => h) (.inl ⟨by rfl, fun W hW => ?_⟩) hS ?_
                    · obtain ⟨z0, z1, z2⟩ := hW; go_simp
                    simp only [Act.put, List.getElem_toArray, List.getElem_cons_succ, List.getElem_cons_zero, List.setIfInBounds_toArray, List.set_cons_zero, List.set_cons_succ]
                    refine wpAnyH_take (i := 1) (v := .int .i64 p.load) rfl (by kernel_rfl) (by kernel_rfl) (by kernel_rfl) (fun _ _ _ h => h) (.inl ⟨by rfl, fun W hW => ?_⟩) hS ?_
                    · obtain ⟨z0, z1, z2⟩ := hW; go_simp
                    simp only [Act.put, List.getElem_toArray, List.getElem_cons_succ, List.getElem_cons_zero, List.setIfInBounds_toArray, List.set_cons_zero, List.set_cons_succ]
                    refine wpAnyH_take (i := 2) (v := .bool false) rfl (by kernel_rfl) (by kernel_rfl) (by kernel_rfl) (fun _ _ _ h => h) (.inl ⟨by rfl, fun W hW => ?_⟩) hS ?_
                    · obtain ⟨z0, z1, z2⟩ := hW; go_simp
                    simp only [Act.put, List.getElem_toArray, List.getElem_cons_succ, List.getElem_cons_zero, List.setIfInBounds_toArray, List.set_cons_zero, List.set_cons_succ]
                    refine wpAnyH_take (i := 3) (v := .bool false) rfl (by kernel_rfl) (by kernel_rfl) (by kernel_rfl) (fun _ _ _ h => h) (.inl ⟨by rfl, fun W hW => ?_⟩) hS ?_
                    · obtain ⟨z0, z1, z2⟩ := hW; go_simp
                    simp only [Act.put, List.getElem_toArray, List.getElem_cons_succ, List.getElem_cons_zero, List.setIfInBounds_toArray, List.set_cons_zero, List.set_cons_succ]
                    refine wpAnyH_take (i := 4) (v := .pointer (some ⟨wr.heap.size, 2, none⟩)) rfl (by kernel_rfl) (by kernel_rfl) (by kernel_rfl) (fun _ _ _ h => h) (.inl ⟨by rfl, fun W hW => ?_⟩) hS ?_
                    · obtain ⟨z0, z1, z2⟩ := hW; go_simp
                    simp only [Act.put, List.getElem_toArray, List.getElem_cons_succ, List.getElem_cons_zero, List.setIfInBounds_toArray, List.set_cons_zero, List.set_cons_succ]
                    refine wpAnyH_take (i := 5) (v := .int .i64 p.load) rfl (by kernel_rfl) (by kernel_rfl) (by kernel_rfl) (fun _ _ _ h => h) (.inl ⟨by rfl, fun W hW => ?_⟩) hS ?_
                    · obtain ⟨z0, z1, z2⟩ := hW; go_simp
                    simp only [Act.put, List.getElem_toArray, List.getElem_cons_succ, List.getElem_cons_zero, List.setIfInBounds_toArray, List.set_cons_zero, List.set_cons_succ]
                    refine wpAnyH_take (i := 6) (v := .int .i64 n) rfl (by kernel_rfl) (by kernel_rfl) (by kernel_rfl) (fun _ _ _ h => h) (.inl ⟨by rfl, fun W hW => ?_⟩) hS ?_
                    · obtain ⟨z0, z1, z2⟩ := hW; go_simp
                    simp only [Act.put, List.getElem_toArray, List.getElem_cons_succ, List.getElem_cons_zero, List.setIfInBounds_toArray, List.set_cons_zero, List.set_cons_succ]
                    refine wpAnyH_take (i := 7) (v := .int .i64 (if (100 : Int) < n then (100 : Int) else n)) rfl (by kernel_rfl) (by kernel_rfl) (by kernel_rfl) (fun _ _ _ h => h) (.inl ⟨by rfl, fun W hW => ?_⟩) hS ?_
                    · obtain ⟨z0, z1, z2⟩ := hW; go_simp
                    simp only [Act.put, List.getElem_toArray, List.getElem_cons_succ, List.getElem_cons_zero, List.setIfInBounds_toArray, List.set_cons_zero, List.set_cons_succ]
                    refine wpAnyH_take (i := 8) (v := .int .i64 (if (1 : Int) < (if (100 : Int) < n then (100 : Int) else n) then (if (100 : Int) < n then (100 : Int) else n) else 1)) rfl (by kernel_rfl) (by kernel_rfl) (by kernel_rfl) (fun _ _ _ h => h) (.inl ⟨by rfl, fun W hW => ?_⟩) hS ?_
                    · obtain ⟨z0, z1, z2⟩ := hW; go_simp
                    simp only [Act.put, List.getElem_toArray, List.getElem_cons_succ, List.getElem_cons_zero, List.setIfInBounds_toArray, List.set_cons_zero, List.set_cons_succ]
                    refine wpAnyH_take (i := 9) (v := .bool (decide ((if (1 : Int) < (if (100 : Int) < n then (100 : Int) else n) then (if (100 : Int) < n then (100 : Int) else n) else 1) < p.load))) rfl (by kernel_rfl) (by kernel_rfl) (by kernel_rfl) (fun _ _ _ h => h) (.inl ⟨by rfl, fun W hW => ?_⟩) hS ?_
                    · obtain ⟨z0, z1, z2⟩ := hW; go_simp
                    simp only [Act.put, List.getElem_toArray, List.getElem_cons_succ, List.getElem_cons_zero, List.setIfInBounds_toArray, List.set_cons_zero, List.set_cons_succ]
                    rw [hmx]
                    generalize (if (1 : Int) < (if (100 : Int) < n then (100 : Int) else n) then (if (100 : Int) < n then (100 : Int) else n) else 1) = mx1
                    generalize (if (100 : Int) < n then (100 : Int) else n) = mx0
                    refine wpAnyH_take (i := 10) (v := .bool false) rfl (by kernel_rfl) (by kernel_rfl) (by kernel_rfl) (fun _ _ _ h => h) (.inl ⟨by rfl, fun W hW => ?_⟩) hS ?_
                    · obtain ⟨z0, z1, z2⟩ := hW; go_simp
                    simp only [Act.put, List.getElem_toArray, List.getElem_cons_succ, List.getElem_cons_zero, List.setIfInBounds_toArray, List.set_cons_zero, List.set_cons_succ]
                    refine wpAnyH_take (i := 11) (v := .bool false) rfl (by kernel_rfl) (by kernel_rfl) (by kernel_rfl) (fun _ _ _ h => h) (.inl ⟨by rfl, fun W hW => ?_⟩) hS ?_
                    · obtain ⟨z0, z1, z2⟩ := hW; go_simp
                    simp only [Act.put, List.getElem_toArray, List.getElem_cons_succ, List.getElem_cons_zero, List.setIfInBounds_toArray, List.set_cons_zero, List.set_cons_succ]
                    refine wpAnyH_take (i := 12) (v := .pointer (some ⟨wr.heap.size, 2, none⟩)) rfl (by kernel_rfl) (by kernel_rfl) (by kernel_rfl) (fun _ _ _ h => h) (.inl ⟨by rfl, fun W hW => ?_⟩) hS ?_
                    · obtain ⟨z0, z1, z2⟩ := hW; go_simp
                    simp only [Act.put, List.getElem_toArray, List.getElem_cons_succ, List.getElem_cons_zero, List.setIfInBounds_toArray, List.set_cons_zero, List.set_cons_succ]
                    refine wpAnyH_take (i := 13) (v := .int .i64 p.load) rfl (by kernel_rfl) (by kernel_rfl) (by kernel_rfl) (fun _ _ _ h => h) (.inl ⟨by rfl, fun W hW => ?_⟩) hS ?_
                    · obtain ⟨z0, z1, z2⟩ := hW; go_simp
                    simp only [Act.put, List.getElem_toArray, List.getElem_cons_succ, List.getElem_cons_zero, List.setIfInBounds_toArray, List.set_cons_zero, List.set_cons_succ]
                    refine wpAnyH_take (i := 14) (v := .bool true) rfl (by kernel_rfl) (by kernel_rfl) (by kernel_rfl) (fun _ _ _ h => h) (.inl ⟨by rfl, fun W hW => ?_⟩) hS ?_
                    · obtain ⟨z0, z1, z2⟩ := hW; go_simp
                    simp only [Act.put, List.getElem_toArray, List.getElem_cons_succ, List.getElem_cons_zero, List.setIfInBounds_toArray, List.set_cons_zero, List.set_cons_succ]
                    refine wpAnyH_take (i := 15) (v := .bool true) rfl (by kernel_rfl) (by kernel_rfl) (by kernel_rfl) (fun _ _ _ h => h) (.inl ⟨by rfl, fun W hW => ?_⟩) hS ?_
                    · obtain ⟨z0, z1, z2⟩ := hW; go_simp
                    simp only [Act.put, List.getElem_toArray, List.getElem_cons_succ, List.getElem_cons_zero, List.setIfInBounds_toArray, List.set_cons_zero, List.set_cons_succ]
                    refine wpAnyH_take (i := 16) (v := .pointer (some ⟨wr.heap.size, 1, none⟩)) rfl (by kernel_rfl) (by kernel_rfl) (by kernel_rfl) (fun _ _ _ h => h) (.inl ⟨by rfl, fun W hW => ?_⟩) hS ?_
                    · obtain ⟨z0, z1, z2⟩ := hW; go_simp
                    simp only [Act.put, List.getElem_toArray, List.getElem_cons_succ, List.getElem_cons_zero, List.setIfInBounds_toArray, List.set_cons_zero, List.set_cons_succ]
                    refine wpAnyH_take (i := 17) (v := .int .i64 3) rfl (by kernel_rfl) (by kernel_rfl) (by kernel_rfl) (fun _ _ _ h => h) (.inl ⟨by rfl, fun W hW => ?_⟩) hS ?_
                    · obtain ⟨z0, z1, z2⟩ := hW; go_simp
                    simp only [Act.put, List.getElem_toArray, List.getElem_cons_succ, List.getElem_cons_zero, List.setIfInBounds_toArray, List.set_cons_zero, List.set_cons_succ]
                    refine wpAnyH_take (i := 18) (v := .bool false) rfl (by kernel_rfl) (by kernel_rfl) (by kernel_rfl) (fun _ _ _ h => h) (.inl ⟨by rfl, fun W hW => ?_⟩) hS ?_
                    · obtain ⟨z0, z1, z2⟩ := hW; go_simp
                    simp only [Act.put, List.getElem_toArray, List.getElem_cons_succ, List.getElem_cons_zero, List.setIfInBounds_toArray, List.set_cons_zero, List.set_cons_succ]
                    refine wpAnyH_take (i := 19) (v := .bool false) rfl (by kernel_rfl) (by kernel_rfl) (by kernel_rfl) (fun _ _ _ h => h) (.inl ⟨by rfl, fun W hW => ?_⟩) hS ?_
                    · obtain ⟨z0, z1, z2⟩ := hW; go_simp
                    simp only [Act.put, List.getElem_toArray, List.getElem_cons_succ, List.getElem_cons_zero, List.setIfInBounds_toArray, List.set_cons_zero, List.set_cons_succ]
                    refine wpAnyH_take (i := 20) (v := .bool false) rfl (by kernel_rfl) (by kernel_rfl) (by kernel_rfl) (fun _ _ _ h => h) (.inl ⟨by rfl, fun W hW => ?_⟩) hS ?_
                    · obtain ⟨z0, z1, z2⟩ := hW; go_simp
                    simp only [Act.put, List.getElem_toArray, List.getElem_cons_succ, List.getElem_cons_zero, List.setIfInBounds_toArray, List.set_cons_zero, List.set_cons_succ]
                    refine wpAnyH_take (i := 21) (v := .bool false) rfl (by kernel_rfl) (by kernel_rfl) (by kernel_rfl) (fun _ _ _ h => h) (.inl ⟨by rfl, fun W hW => ?_⟩) hS ?_
                    · obtain ⟨z0, z1, z2⟩ := hW; go_simp
                    simp only [Act.put, List.getElem_toArray, List.getElem_cons_succ, List.getElem_cons_zero, List.setIfInBounds_toArray, List.set_cons_zero, List.set_cons_succ]
                    refine wpAnyH_take (i := 22) (v := .pointer (some ⟨wr.heap.size, 1, none⟩)) rfl (by kernel_rfl) (by kernel_rfl) (by kernel_rfl) (fun _ _ _ h => h) (.inl ⟨by rfl, fun W hW => ?_⟩) hS ?_
                    · obtain ⟨z0, z1, z2⟩ := hW; go_simp
                    simp only [Act.put, List.getElem_toArray, List.getElem_cons_succ, List.getElem_cons_zero, List.setIfInBounds_toArray, List.set_cons_zero, List.set_cons_succ]
                    refine wpAnyH_take (i := 23) (v := .int .i64 3) rfl (by kernel_rfl) (by kernel_rfl) (by kernel_rfl) (fun _ _ _ h => h) (.inl ⟨by rfl, fun W hW => ?_⟩) hS ?_
                    · obtain ⟨z0, z1, z2⟩ := hW; go_simp
                    simp only [Act.put, List.getElem_toArray, List.getElem_cons_succ, List.getElem_cons_zero, List.setIfInBounds_toArray, List.set_cons_zero, List.set_cons_succ]
                    refine wpAnyH_take (i := 24) (v := .bool false) rfl (by kernel_rfl) (by kernel_rfl) (by kernel_rfl) (fun _ _ _ h => h) (.inl ⟨by rfl, fun W hW => ?_⟩) hS ?_
                    · obtain ⟨z0, z1, z2⟩ := hW; go_simp
                    simp only [Act.put, List.getElem_toArray, List.getElem_cons_succ, List.getElem_cons_zero, List.setIfInBounds_toArray, List.set_cons_zero, List.set_cons_succ]
                    refine wpAnyH_take (i := 25) (v := .bool false) rfl (by kernel_rfl) (by kernel_rfl) (by kernel_rfl) (fun _ _ _ h => h) (.inl ⟨by rfl, fun W hW => ?_⟩) hS ?_
                    · obtain ⟨z0, z1, z2⟩ := hW; go_simp
                    simp only [Act.put, List.getElem_toArray, List.getElem_cons_succ, List.getElem_cons_zero, List.setIfInBounds_toArray, List.set_cons_zero, List.set_cons_succ]
                    refine wpAnyH_take (i := 26) (v := undef) rfl (by kernel_rfl) (by kernel_rfl) (by kernel_rfl) (fun _ _ _ h => h) (.inr ⟨by rfl, rfl⟩) hS ?_
                    simp only [Act.put, List.getElem_toArray, List.getElem_cons_succ, List.getElem_cons_zero, List.setIfInBounds_toArray, List.set_cons_zero, List.set_cons_succ]
                    refine wpAnyH_take (i := 27) (v := undef) rfl (by kernel_rfl) (by kernel_rfl) (by kernel_rfl) (fun _ _ _ h => h) (.inr ⟨by rfl, rfl⟩) hS ?_
                    simp only [Act.put, List.getElem_toArray, List.getElem_cons_succ, List.getElem_cons_zero, List.setIfInBounds_toArray, List.set_cons_zero, List.set_cons_succ]
                    refine wpAnyH_take (i := 28) (v := undef) rfl (by kernel_rfl) (by kernel_rfl) (by kernel_rfl) (fun _ _ _ h => h) (.inr ⟨by rfl, rfl⟩) hS ?_
                    simp only [Act.put, List.getElem_toArray, List.getElem_cons_succ, List.getElem_cons_zero, List.setIfInBounds_toArray, List.set_cons_zero, List.set_cons_succ]
                    refine wpAnyH_take (i := 29) (v := .bool false) rfl (by kernel_rfl) (by kernel_rfl) (by kernel_rfl) (fun _ _ _ h => h) (.inl ⟨by rfl, fun W hW => ?_⟩) hS ?_
                    · obtain ⟨z0, z1, z2⟩ := hW; go_simp
                    simp only [Act.put, List.getElem_toArray, List.getElem_cons_succ, List.getElem_cons_zero, List.setIfInBounds_toArray, List.set_cons_zero, List.set_cons_succ]
                    refine wpAnyH_take (i := 30) (v := .bool false) rfl (by kernel_rfl) (by kernel_rfl) (by kernel_rfl) (fun _ _ _ h => h) (.inl ⟨by rfl, fun W hW => ?_⟩) hS ?_
                    · obtain ⟨z0, z1, z2⟩ := hW; go_simp
                    simp only [Act.put, List.getElem_toArray, List.getElem_cons_succ, List.getElem_cons_zero, List.setIfInBounds_toArray, List.set_cons_zero, List.set_cons_succ]
                    refine wpAnyH_take (i := 31) (v := .bool false) rfl (by kernel_rfl) (by kernel_rfl) (by kernel_rfl) (fun _ _ _ h => h) (.inl ⟨by rfl, fun W hW => ?_⟩) hS ?_
                    · obtain ⟨z0, z1, z2⟩ := hW; go_simp
                    simp only [Act.put, List.getElem_toArray, List.getElem_cons_succ, List.getElem_cons_zero, List.setIfInBounds_toArray, List.set_cons_zero, List.set_cons_succ]
                    refine wpAnyH_take (i := 32) (v := .int .i64 ((m + 1 : Nat) : Int)) rfl (by kernel_rfl) (by kernel_rfl) (by kernel_rfl) (fun _ _ _ h => h) (.inl ⟨by rfl, fun W hW => ?_⟩) hS ?_
                    · obtain ⟨z0, z1, z2⟩ := hW; go_simp
                    simp only [Act.put, List.getElem_toArray, List.getElem_cons_succ, List.getElem_cons_zero, List.setIfInBounds_toArray, List.set_cons_zero, List.set_cons_succ]
                    refine wpAnyH_take (i := 33) (v := .bool true) rfl (by kernel_rfl) (by kernel_rfl) (by kernel_rfl) (fun _ _ _ h => h) (.inl ⟨by rfl, fun W hW => ?_⟩) hS ?_
                    · obtain ⟨z0, z1, z2⟩ := hW; go_simp
                    simp only [Act.put, List.getElem_toArray, List.getElem_cons_succ, List.getElem_cons_zero, List.setIfInBounds_toArray, List.set_cons_zero, List.set_cons_succ]
                    refine wpAnyH_take (i := 34) (v := .bool true) rfl (by kernel_rfl) (by kernel_rfl) (by kernel_rfl) (fun _ _ _ h => h) (.inl ⟨by rfl, fun W hW => ?_⟩) hS ?_
                    · obtain ⟨z0, z1, z2⟩ := hW; go_simp
                    simp only [Act.put, List.getElem_toArray, List.getElem_cons_succ, List.getElem_cons_zero, List.setIfInBounds_toArray, List.set_cons_zero, List.set_cons_succ]
                    refine wpAnyH_take (i := 35) (v := .pointer (some ⟨g, 0, none⟩)) rfl (by kernel_rfl) (by kernel_rfl) (by kernel_rfl) (fun _ _ _ h => h) (.inl ⟨by rfl, fun W hW => ?_⟩) hS ?_
                    · obtain ⟨z0, z1, z2⟩ := hW; go_simp
                    simp only [Act.put, List.getElem_toArray, List.getElem_cons_succ, List.getElem_cons_zero, List.setIfInBounds_toArray, List.set_cons_zero, List.set_cons_succ]
                    refine wpAnyH_take (i := 37) (v := .int .i64 ((m + 1 : Nat) : Int)) rfl (by kernel_rfl) (by kernel_rfl) (by kernel_rfl) (fun _ _ _ h => h) (.inl ⟨by rfl, fun W hW => ?_⟩) hS ?_
                    · obtain ⟨z0, z1, z2⟩ := hW; go_simp
                    simp only [Act.put, List.getElem_toArray, List.getElem_cons_succ, List.getElem_cons_zero, List.setIfInBounds_toArray, List.set_cons_zero, List.set_cons_succ]
                    refine wpAnyH_take (i := 38) (v := .int .i64 (m : Int)) rfl (by kernel_rfl) (by kernel_rfl) (by kernel_rfl) (fun _ _ _ h => h) (.inl ⟨by rfl, fun W hW => ?_⟩) hS ?_
                    · obtain ⟨z0, z1, z2⟩ := hW; go_simp
                    simp only [Act.put, List.getElem_toArray, List.getElem_cons_succ, List.getElem_cons_zero, List.setIfInBounds_toArray, List.set_cons_zero, List.set_cons_succ]
                    refine wpAnyH_take (i := 42) (v := .pointer (some ⟨wr.heap.size, 0, none⟩)) rfl (by kernel_rfl) (by kernel_rfl) (by kernel_rfl) (fun _ _ _ h => h) (.inl ⟨by rfl, fun W hW => ?_⟩) hS ?_
                    · obtain ⟨z0, z1, z2⟩ := hW; go_simp
                    simp only [Act.put, List.getElem_toArray, List.getElem_cons_succ, List.getElem_cons_zero, List.setIfInBounds_toArray, List.set_cons_zero, List.set_cons_succ]
                    refine wpAnyH_take (i := 43) (v := .int .i64 p.id) rfl (by kernel_rfl) (by kernel_rfl) (by kernel_rfl) (fun _ _ _ h => h) (.inl ⟨by rfl, fun W hW => ?_⟩) hS ?_
                    · obtain ⟨z0, z1, z2⟩ := hW; go_simp
                    simp only [Act.put, List.getElem_toArray, List.getElem_cons_succ, List.getElem_cons_zero, List.setIfInBounds_toArray, List.set_cons_zero, List.set_cons_succ]
                    refine wpAnyH_ready (rs := [36]) (by kernel_rfl) (by simp) (AllReadyH.cons rfl (fun K hK => ?_) AllReadyH.nil)
                    go_simp
                    refine (fleAll S' g v' L' last' _ _ HPW.out.drew).mono ?_
                    rintro e w5 ⟨u5, rfl, o5, b5⟩
                    obtain ⟨b6, cap6, rfl, _, d0, _, _⟩ := row_pod o5 hp'
                    have X5 := HXp.out.drew.below b5 HXp.out.drew.inside
                    have hS2 : (fun w' : World => w'.cell? ⟨wr.heap.size, 0, none⟩ = some (.int .i64 p.id) ∧ w'.cell? ⟨wr.heap.size, 1, none⟩ = some (.int .i64 3) ∧ w'.cell? ⟨wr.heap.size, 2, none⟩ = some (.int .i64 p.load)) w5 := ⟨X5.here (i := 0) rfl, by rw [X5.here (i := 1) rfl, HEq.out] <;> rfl, X5.here (i := 2) rfl⟩
                    clear X5
                    go_wp2_with fail
                    refine hK.out _ _ hS2 (fun _ => ?_)
                    clear hK K hS
                    refine wpAnyH_take (i := 39) (v := .pointer (some ⟨b6, m * 3, none⟩)) rfl (by kernel_rfl) (by kernel_rfl) (by kernel_rfl) (fun _ _ _ h => h) (.inl ⟨by rfl, fun W hW => ?_⟩) hS2 ?_
                    · obtain ⟨z0, z1, z2⟩ := hW; go_simp
                    simp only [Act.put, List.getElem_toArray, List.getElem_cons_succ, List.getElem_cons_zero, List.setIfInBounds_toArray, List.set_cons_zero, List.set_cons_succ]
                    refine wpAnyH_take (i := 40) (v := .pointer (some ⟨b6, m * 3, none⟩)) rfl (by kernel_rfl) (by kernel_rfl) (by kernel_rfl) (fun _ _ _ h => h) (.inl ⟨by rfl, fun W hW => ?_⟩) hS2 ?_
                    · obtain ⟨z0, z1, z2⟩ := hW; go_simp
                    simp only [Act.put, List.getElem_toArray, List.getElem_cons_succ, List.getElem_cons_zero, List.setIfInBounds_toArray, List.set_cons_zero, List.set_cons_succ]
                    refine wpAnyH_ready (rs := [41]) (by kernel_rfl) (by simp) (AllReadyH.cons rfl (fun K hK => ?_) AllReadyH.nil)
                    go_simp
                    refine hK.out _ _ hS2 (fun _ => ?_)
                    clear hK K
                    refine wpAnyH_take (i := 44) (v := .bool false) rfl (by kernel_rfl) (by kernel_rfl) (by kernel_rfl) (fun _ _ _ h => h) (.inl ⟨by rfl, fun W hW => ?_⟩) hS2 ?_
                    · obtain ⟨z0, z1, z2⟩ := hW; go_simp
                    simp only [Act.put, List.getElem_toArray, List.getElem_cons_succ, List.getElem_cons_zero, List.setIfInBounds_toArray, List.set_cons_zero, List.set_cons_succ]
                    try simp only [hdl]
                    refine wpAnyH_take (i := 45) (v := .bool false) rfl (by kernel_rfl) (by kernel_rfl) (by kernel_rfl) (fun _ _ _ h => h) (.inl ⟨by rfl, fun W hW => ?_⟩) hS2 ?_
                    · obtain ⟨z0, z1, z2⟩ := hW; go_simp
                    simp only [Act.put, List.getElem_toArray, List.getElem_cons_succ, List.getElem_cons_zero, List.setIfInBounds_toArray, List.set_cons_zero, List.set_cons_succ]
                    refine wpAnyH_take (i := 46) (v := .bool false) rfl (by kernel_rfl) (by kernel_rfl) (by kernel_rfl) (fun _ _ _ h => h) (.inl ⟨by rfl, fun W hW => ?_⟩) hS2 ?_
                    · obtain ⟨z0, z1, z2⟩ := hW; go_simp
                    simp only [Act.put, List.getElem_toArray, List.getElem_cons_succ, List.getElem_cons_zero, List.setIfInBounds_toArray, List.set_cons_zero, List.set_cons_succ]
                    refine wpAnyH_done (by kernel_rfl) ?_ _
                    have HBz := Lib.hid (HBn.out.drew.trans (b5.mono HBn.out.drew.size))
                    clear o5 b5 d0 hS2
                    go_wp2_with fail
                    all_goals (go_meet; exact ⟨rfl, HBz⟩)
              · have HEq := Lib.hid q2
                have q4 : (p.load == 0) = false := by simp only [beq_eq_false_iff_ne]; omega
                rw [q2] at x1 y1
                clear q2
                cases t with
                | zero =>
                  as_aux_lemma =>
                    go_wp2_with fail
                    have hS : (fun w' : World => w'.cell? ⟨wr.heap.size, 0, none⟩ = some (.int .i64 p.id) ∧ w'.cell? ⟨wr.heap.size, 1, none⟩ = some (.int .i64 4) ∧ w'.cell? ⟨wr.heap.size, 2, none⟩ = some (.int .i64 p.load)) W.drew := ⟨y0, y1, y2⟩
                    refine wp_region_held_drew (S := (fun w' : World => w'.cell? ⟨wr.heap.size, 0, none⟩ = some (.int .i64 p.id) ∧ w'.cell? ⟨wr.heap.size, 1, none⟩ = some (.int .i64 4) ∧ w'.cell? ⟨wr.heap.size, 2, none⟩ = some (.int .i64 p.load))) (by kernel_rfl) hS (fun _ => ?_)
                    change wpAnyH _ _ _ _ _ 47 #[false, false, false, false, false, false, false, false, false, false, false, false, false, false, false, false, false, false, false, false, false, false, false, false, false, false, false, false, false, false, false, false, false, false, false, false, false, false, false, false, false, false, false, false, false, false, false] _ (World.drew _)
                    refine wpAnyH_take (i := 0) (v := .pointer (some ⟨wr.heap.size, 2, none⟩)) rfl (by kernel_rfl) (by kernel_rfl) (by kernel_rfl) (fun _ _ _ h => h) (.inl ⟨by rfl, fun W hW => ?_⟩) hS ?_
                    · obtain ⟨z0, z1, z2⟩ := hW; go_simp
                    simp only [Act.put, List.getElem_toArray, List.getElem_cons_succ, List.getElem_cons_zero, List.setIfInBounds_toArray, List.set_cons_zero, List.set_cons_succ]
                    refine wpAnyH_take (i := 1) (v := .int .i64 p.load) rfl (by kernel_rfl) (by kernel_rfl) (by kernel_rfl) (fun _ _ _ h => h) (.inl ⟨by rfl, fun W hW => ?_⟩) hS ?_
                    · obtain ⟨z0, z1, z2⟩ := hW; go_simp
                    simp only [Act.put, List.getElem_toArray, List.getElem_cons_succ, List.getElem_cons_zero, List.setIfInBounds_toArray, List.set_cons_zero, List.set_cons_succ]
                    refine wpAnyH_take (i := 2) (v := .bool false) rfl (by kernel_rfl) (by kernel_rfl) (by kernel_rfl) (fun _ _ _ h => h) (.inl ⟨by rfl, fun W hW => ?_⟩) hS ?_
                    · obtain ⟨z0, z1, z2⟩ := hW; go_simp
                    simp only [Act.put, List.getElem_toArray, List.getElem_cons_succ, List.getElem_cons_zero, List.setIfInBounds_toArray, List.set_cons_zero, List.set_cons_succ]
                    refine wpAnyH_take (i := 3) (v := .bool false) rfl (by kernel_rfl) (by kernel_rfl) (by kernel_rfl) (fun _ _ _ h => h) (.inl ⟨by rfl, fun W hW => ?_⟩) hS ?_
                    · obtain ⟨z0, z1, z2⟩ := hW; go_simp
                    simp only [Act.put, List.getElem_toArray, List.getElem_cons_succ, List.getElem_cons_zero, List.setIfInBounds_toArray, List.set_cons_zero, List.set_cons_succ]
                    refine wpAnyH_take (i := 4) (v := .pointer (some ⟨wr.heap.size, 2, none⟩)) rfl (by kernel_rfl) (by kernel_rfl) (by kernel_rfl) (fun _ _ _ h => h) (.inl ⟨by rfl, fun W hW => ?_⟩) hS ?_
                    · obtain ⟨z0, z1, z2⟩ := hW; go_simp
                    simp only [Act.put, List.getElem_toArray, List.getElem_cons_succ, List.getElem_cons_zero, List.setIfInBounds_toArray, List.set_cons_zero, List.set_cons_succ]
                    refine wpAnyH_take (i := 5) (v := .int .i64 p.load) rfl (by kernel_rfl) (by kernel_rfl) (by kernel_rfl) (fun _ _ _ h => h) (.inl ⟨by rfl, fun W hW => ?_⟩) hS ?_
                    · obtain ⟨z0, z1, z2⟩ := hW; go_simp
                    simp only [Act.put, List.getElem_toArray, List.getElem_cons_succ, List.getElem_cons_zero, List.setIfInBounds_toArray, List.set_cons_zero, List.set_cons_succ]
                    refine wpAnyH_take (i := 6) (v := .int .i64 n) rfl (by kernel_rfl) (by kernel_rfl) (by kernel_rfl) (fun _ _ _ h => h) (.inl ⟨by rfl, fun W hW => ?_⟩) hS ?_
                    · obtain ⟨z0, z1, z2⟩ := hW; go_simp
                    simp only [Act.put, List.getElem_toArray, List.getElem_cons_succ, List.getElem_cons_zero, List.setIfInBounds_toArray, List.set_cons_zero, List.set_cons_succ]
                    refine wpAnyH_take (i := 7) (v := .int .i64 (if (100 : Int) < n then (100 : Int) else n)) rfl (by kernel_rfl) (by kernel_rfl) (by kernel_rfl) (fun _ _ _ h => h) (.inl ⟨by rfl, fun W hW => ?_⟩) hS ?_
                    · obtain ⟨z0, z1, z2⟩ := hW; go_simp
                    simp only [Act.put, List.getElem_toArray, List.getElem_cons_succ, List.getElem_cons_zero, List.setIfInBounds_toArray, List.set_cons_zero, List.set_cons_succ]
                    refine wpAnyH_take (i := 8) (v := .int .i64 (if (1 : Int) < (if (100 : Int) < n then (100 : Int) else n) then (if (100 : Int) < n then (100 : Int) else n) else 1)) rfl (by kernel_rfl) (by kernel_rfl) (by kernel_rfl) (fun _ _ _ h => h) (.inl ⟨by rfl, fun W hW => ?_⟩) hS ?_
                    · obtain ⟨z0, z1, z2⟩ := hW; go_simp
                    simp only [Act.put, List.getElem_toArray, List.getElem_cons_succ, List.getElem_cons_zero, List.setIfInBounds_toArray, List.set_cons_zero, List.set_cons_succ]
                    refine wpAnyH_take (i := 9) (v := .bool (decide ((if (1 : Int) < (if (100 : Int) < n then (100 : Int) else n) then (if (100 : Int) < n then (100 : Int) else n) else 1) < p.load))) rfl (by kernel_rfl) (by kernel_rfl) (by kernel_rfl) (fun _ _ _ h => h) (.inl ⟨by rfl, fun W hW => ?_⟩) hS ?_
                    · obtain ⟨z0, z1, z2⟩ := hW; go_simp
                    simp only [Act.put, List.getElem_toArray, List.getElem_cons_succ, List.getElem_cons_zero, List.setIfInBounds_toArray, List.set_cons_zero, List.set_cons_succ]
                    rw [hmx]
                    generalize (if (1 : Int) < (if (100 : Int) < n then (100 : Int) else n) then (if (100 : Int) < n then (100 : Int) else n) else 1) = mx1
                    generalize (if (100 : Int) < n then (100 : Int) else n) = mx0
                    refine wpAnyH_take (i := 10) (v := .bool false) rfl (by kernel_rfl) (by kernel_rfl) (by kernel_rfl) (fun _ _ _ h => h) (.inl ⟨by rfl, fun W hW => ?_⟩) hS ?_
                    · obtain ⟨z0, z1, z2⟩ := hW; go_simp
                    simp only [Act.put, List.getElem_toArray, List.getElem_cons_succ, List.getElem_cons_zero, List.setIfInBounds_toArray, List.set_cons_zero, List.set_cons_succ]
                    refine wpAnyH_take (i := 11) (v := .bool false) rfl (by kernel_rfl) (by kernel_rfl) (by kernel_rfl) (fun _ _ _ h => h) (.inl ⟨by rfl, fun W hW => ?_⟩) hS ?_
                    · obtain ⟨z0, z1, z2⟩ := hW; go_simp
                    simp only [Act.put, List.getElem_toArray, List.getElem_cons_succ, List.getElem_cons_zero, List.setIfInBounds_toArray, List.set_cons_zero, List.set_cons_succ]
                    refine wpAnyH_take (i := 12) (v := .pointer (some ⟨wr.heap.size, 2, none⟩)) rfl (by kernel_rfl) (by kernel_rfl) (by kernel_rfl) (fun _ _ _ h => h) (.inl ⟨by rfl, fun W hW => ?_⟩) hS ?_
                    · obtain ⟨z0, z1, z2⟩ := hW; go_simp
                    simp only [Act.put, List.getElem_toArray, List.getElem_cons_succ, List.getElem_cons_zero, List.setIfInBounds_toArray, List.set_cons_zero, List.set_cons_succ]
                    refine wpAnyH_take (i := 13) (v := .int .i64 p.load) rfl (by kernel_rfl) (by kernel_rfl) (by kernel_rfl) (fun _ _ _ h => h) (.inl ⟨by rfl, fun W hW => ?_⟩) hS ?_
                    · obtain ⟨z0, z1, z2⟩ := hW; go_simp
                    simp only [Act.put, List.getElem_toArray, List.getElem_cons_succ, List.getElem_cons_zero, List.setIfInBounds_toArray, List.set_cons_zero, List.set_cons_succ]
                    refine wpAnyH_take (i := 14) (v := .bool true) rfl (by kernel_rfl) (by kernel_rfl) (by kernel_rfl) (fun _ _ _ h => h) (.inl ⟨by rfl, fun W hW => ?_⟩) hS ?_
                    · obtain ⟨z0, z1, z2⟩ := hW; go_simp
                    simp only [Act.put, List.getElem_toArray, List.getElem_cons_succ, List.getElem_cons_zero, List.setIfInBounds_toArray, List.set_cons_zero, List.set_cons_succ]
                    refine wpAnyH_take (i := 15) (v := .bool true) rfl (by kernel_rfl) (by kernel_rfl) (by kernel_rfl) (fun _ _ _ h => h) (.inl ⟨by rfl, fun W hW => ?_⟩) hS ?_
                    · obtain ⟨z0, z1, z2⟩ := hW; go_simp
                    simp only [Act.put, List.getElem_toArray, List.getElem_cons_succ, List.getElem_cons_zero, List.setIfInBounds_toArray, List.set_cons_zero, List.set_cons_succ]
                    refine wpAnyH_take (i := 16) (v := .pointer (some ⟨wr.heap.size, 1, none⟩)) rfl (by kernel_rfl) (by kernel_rfl) (by kernel_rfl) (fun _ _ _ h => h) (.inl ⟨by rfl, fun W hW => ?_⟩) hS ?_
                    · obtain ⟨z0, z1, z2⟩ := hW; go_simp
                    simp only [Act.put, List.getElem_toArray, List.getElem_cons_succ, List.getElem_cons_zero, List.setIfInBounds_toArray, List.set_cons_zero, List.set_cons_succ]
                    refine wpAnyH_take (i := 17) (v := .int .i64 4) rfl (by kernel_rfl) (by kernel_rfl) (by kernel_rfl) (fun _ _ _ h => h) (.inl ⟨by rfl, fun W hW => ?_⟩) hS ?_
                    · obtain ⟨z0, z1, z2⟩ := hW; go_simp
                    simp only [Act.put, List.getElem_toArray, List.getElem_cons_succ, List.getElem_cons_zero, List.setIfInBounds_toArray, List.set_cons_zero, List.set_cons_succ]
                    refine wpAnyH_take (i := 18) (v := .bool false) rfl (by kernel_rfl) (by kernel_rfl) (by kernel_rfl) (fun _ _ _ h => h) (.inl ⟨by rfl, fun W hW => ?_⟩) hS ?_
                    · obtain ⟨z0, z1, z2⟩ := hW; go_simp
                    simp only [Act.put, List.getElem_toArray, List.getElem_cons_succ, List.getElem_cons_zero, List.setIfInBounds_toArray, List.set_cons_zero, List.set_cons_succ]
                    refine wpAnyH_take (i := 19) (v := .bool false) rfl (by kernel_rfl) (by kernel_rfl) (by kernel_rfl) (fun _ _ _ h => h) (.inl ⟨by rfl, fun W hW => ?_⟩) hS ?_
                    · obtain ⟨z0, z1, z2⟩ := hW; go_simp
                    simp only [Act.put, List.getElem_toArray, List.getElem_cons_succ, List.getElem_cons_zero, List.setIfInBounds_toArray, List.set_cons_zero, List.set_cons_succ]
                    refine wpAnyH_take (i := 20) (v := .bool false) rfl (by kernel_rfl) (by kernel_rfl) (by kernel_rfl) (fun _ _ _ h => h) (.inl ⟨by rfl, fun W hW => ?_⟩) hS ?_
                    · obtain ⟨z0, z1, z2⟩ := hW; go_simp
                    simp only [Act.put, List.getElem_toArray, List.getElem_cons_succ, List.getElem_cons_zero, List.setIfInBounds_toArray, List.set_cons_zero, List.set_cons_succ]
                    refine wpAnyH_take (i := 21) (v := .bool false) rfl (by kernel_rfl) (by kernel_rfl) (by kernel_rfl) (fun _ _ _ h => h) (.inl ⟨by rfl, fun W hW => ?_⟩) hS ?_
                    · obtain ⟨z0, z1, z2⟩ := hW; go_simp
                    simp only [Act.put, List.getElem_toArray, List.getElem_cons_succ, List.getElem_cons_zero, List.setIfInBounds_toArray, List.set_cons_zero, List.set_cons_succ]
                    refine wpAnyH_take (i := 22) (v := .pointer (some ⟨wr.heap.size, 1, none⟩)) rfl (by kernel_rfl) (by kernel_rfl) (by kernel_rfl) (fun _ _ _ h => h) (.inl ⟨by rfl, fun W hW => ?_⟩) hS ?_
                    · obtain ⟨z0, z1, z2⟩ := hW; go_simp
                    simp only [Act.put, List.getElem_toArray, List.getElem_cons_succ, List.getElem_cons_zero, List.setIfInBounds_toArray, List.set_cons_zero, List.set_cons_succ]
                    refine wpAnyH_take (i := 23) (v := .int .i64 4) rfl (by kernel_rfl) (by kernel_rfl) (by kernel_rfl) (fun _ _ _ h => h) (.inl ⟨by rfl, fun W hW => ?_⟩) hS ?_
                    · obtain ⟨z0, z1, z2⟩ := hW; go_simp
                    simp only [Act.put, List.getElem_toArray, List.getElem_cons_succ, List.getElem_cons_zero, List.setIfInBounds_toArray, List.set_cons_zero, List.set_cons_succ]
                    refine wpAnyH_take (i := 24) (v := .bool true) rfl (by kernel_rfl) (by kernel_rfl) (by kernel_rfl) (fun _ _ _ h => h) (.inl ⟨by rfl, fun W hW => ?_⟩) hS ?_
                    · obtain ⟨z0, z1, z2⟩ := hW; go_simp
                    simp only [Act.put, List.getElem_toArray, List.getElem_cons_succ, List.getElem_cons_zero, List.setIfInBounds_toArray, List.set_cons_zero, List.set_cons_succ]
                    refine wpAnyH_take (i := 25) (v := .bool true) rfl (by kernel_rfl) (by kernel_rfl) (by kernel_rfl) (fun _ _ _ h => h) (.inl ⟨by rfl, fun W hW => ?_⟩) hS ?_
                    · obtain ⟨z0, z1, z2⟩ := hW; go_simp
                    simp only [Act.put, List.getElem_toArray, List.getElem_cons_succ, List.getElem_cons_zero, List.setIfInBounds_toArray, List.set_cons_zero, List.set_cons_succ]
                    refine wpAnyH_take (i := 26) (v := .pointer (some ⟨wr.heap.size, 2, none⟩)) rfl (by kernel_rfl) (by kernel_rfl) (by kernel_rfl) (fun _ _ _ h => h) (.inl ⟨by rfl, fun W hW => ?_⟩) hS ?_
                    · obtain ⟨z0, z1, z2⟩ := hW; go_simp
                    simp only [Act.put, List.getElem_toArray, List.getElem_cons_succ, List.getElem_cons_zero, List.setIfInBounds_toArray, List.set_cons_zero, List.set_cons_succ]
                    refine wpAnyH_take (i := 27) (v := .int .i64 p.load) rfl (by kernel_rfl) (by kernel_rfl) (by kernel_rfl) (fun _ _ _ h => h) (.inl ⟨by rfl, fun W hW => ?_⟩) hS ?_
                    · obtain ⟨z0, z1, z2⟩ := hW; go_simp
                    simp only [Act.put, List.getElem_toArray, List.getElem_cons_succ, List.getElem_cons_zero, List.setIfInBounds_toArray, List.set_cons_zero, List.set_cons_succ]
                    refine wpAnyH_take (i := 28) (v := .bool false) rfl (by kernel_rfl) (by kernel_rfl) (by kernel_rfl) (fun _ _ _ h => h) (.inl ⟨by rfl, fun W hW => ?_⟩) hS ?_
                    · obtain ⟨z0, z1, z2⟩ := hW; go_simp
                    simp only [Act.put, List.getElem_toArray, List.getElem_cons_succ, List.getElem_cons_zero, List.setIfInBounds_toArray, List.set_cons_zero, List.set_cons_succ]
                    refine wpAnyH_take (i := 29) (v := .bool false) rfl (by kernel_rfl) (by kernel_rfl) (by kernel_rfl) (fun _ _ _ h => h) (.inl ⟨by rfl, fun W hW => ?_⟩) hS ?_
                    · obtain ⟨z0, z1, z2⟩ := hW; go_simp
                    simp only [Act.put, List.getElem_toArray, List.getElem_cons_succ, List.getElem_cons_zero, List.setIfInBounds_toArray, List.set_cons_zero, List.set_cons_succ]
                    refine wpAnyH_take (i := 30) (v := .bool false) rfl (by kernel_rfl) (by kernel_rfl) (by kernel_rfl) (fun _ _ _ h => h) (.inl ⟨by rfl, fun W hW => ?_⟩) hS ?_
                    · obtain ⟨z0, z1, z2⟩ := hW; go_simp
                    simp only [Act.put, List.getElem_toArray, List.getElem_cons_succ, List.getElem_cons_zero, List.setIfInBounds_toArray, List.set_cons_zero, List.set_cons_succ]
                    refine wpAnyH_take (i := 31) (v := .bool false) rfl (by kernel_rfl) (by kernel_rfl) (by kernel_rfl) (fun _ _ _ h => h) (.inl ⟨by rfl, fun W hW => ?_⟩) hS ?_
                    · obtain ⟨z0, z1, z2⟩ := hW; go_simp
                    simp only [Act.put, List.getElem_toArray, List.getElem_cons_succ, List.getElem_cons_zero, List.setIfInBounds_toArray, List.set_cons_zero, List.set_cons_succ]
                    refine wpAnyH_take (i := 32) (v := .int .i64 ((0 : Nat) : Int)) rfl (by kernel_rfl) (by kernel_rfl) (by kernel_rfl) (fun _ _ _ h => h) (.inl ⟨by rfl, fun W hW => ?_⟩) hS ?_
                    · obtain ⟨z0, z1, z2⟩ := hW; go_simp
                    simp only [Act.put, List.getElem_toArray, List.getElem_cons_succ, List.getElem_cons_zero, List.setIfInBounds_toArray, List.set_cons_zero, List.set_cons_succ]
                    refine wpAnyH_take (i := 33) (v := .bool false) rfl (by kernel_rfl) (by kernel_rfl) (by kernel_rfl) (fun _ _ _ h => h) (.inl ⟨by rfl, fun W hW => ?_⟩) hS ?_
                    · obtain ⟨z0, z1, z2⟩ := hW; go_simp
                    simp only [Act.put, List.getElem_toArray, List.getElem_cons_succ, List.getElem_cons_zero, List.setIfInBounds_toArray, List.set_cons_zero, List.set_cons_succ]
                    refine wpAnyH_take (i := 34) (v := .bool false) rfl (by kernel_rfl) (by kernel_rfl) (by kernel_rfl) (fun _ _ _ h => h) (.inl ⟨by rfl, fun W hW => ?_⟩) hS ?_
                    · obtain ⟨z0, z1, z2⟩ := hW; go_simp
                    simp only [Act.put, List.getElem_toArray, List.getElem_cons_succ, List.getElem_cons_zero, List.setIfInBounds_toArray, List.set_cons_zero, List.set_cons_succ]
                    refine wpAnyH_take (i := 35) (v := undef) rfl (by kernel_rfl) (by kernel_rfl) (by kernel_rfl) (fun _ _ _ h => h) (.inr ⟨by rfl, rfl⟩) hS ?_
                    simp only [Act.put, List.getElem_toArray, List.getElem_cons_succ, List.getElem_cons_zero, List.setIfInBounds_toArray, List.set_cons_zero, List.set_cons_succ]
                    refine wpAnyH_take (i := 36) (v := undef) rfl (by kernel_rfl) (by kernel_rfl) (by kernel_rfl) (fun _ _ _ h => h) (.inr ⟨by rfl, rfl⟩) hS ?_
                    simp only [Act.put, List.getElem_toArray, List.getElem_cons_succ, List.getElem_cons_zero, List.setIfInBounds_toArray, List.set_cons_zero, List.set_cons_succ]
                    refine wpAnyH_take (i := 37) (v := undef) rfl (by kernel_rfl) (by kernel_rfl) (by kernel_rfl) (fun _ _ _ h => h) (.inr ⟨by rfl, rfl⟩) hS ?_
                    simp only [Act.put, List.getElem_toArray, List.getElem_cons_succ, List.getElem_cons_zero, List.setIfInBounds_toArray, List.set_cons_zero, List.set_cons_succ]
                    refine wpAnyH_take (i := 38) (v := undef) rfl (by kernel_rfl) (by kernel_rfl) (by kernel_rfl) (fun _ _ _ h => h) (.inr ⟨by rfl, rfl⟩) hS ?_
                    simp only [Act.put, List.getElem_toArray, List.getElem_cons_succ, List.getElem_cons_zero, List.setIfInBounds_toArray, List.set_cons_zero, List.set_cons_succ]
                    refine wpAnyH_take (i := 39) (v := undef) rfl (by kernel_rfl) (by kernel_rfl) (by kernel_rfl) (fun _ _ _ h => h) (.inr ⟨by rfl, rfl⟩) hS ?_
                    simp only [Act.put, List.getElem_toArray, List.getElem_cons_succ, List.getElem_cons_zero, List.setIfInBounds_toArray, List.set_cons_zero, List.set_cons_succ]
                    refine wpAnyH_take (i := 40) (v := undef) rfl (by kernel_rfl) (by kernel_rfl) (by kernel_rfl) (fun _ _ _ h => h) (.inr ⟨by rfl, rfl⟩) hS ?_
                    simp only [Act.put, List.getElem_toArray, List.getElem_cons_succ, List.getElem_cons_zero, List.setIfInBounds_toArray, List.set_cons_zero, List.set_cons_succ]
                    refine wpAnyH_take (i := 41) (v := undef) rfl (by kernel_rfl) (by kernel_rfl) (by kernel_rfl) (fun _ _ _ h => h) (.inr ⟨by rfl, rfl⟩) hS ?_
                    simp only [Act.put, List.getElem_toArray, List.getElem_cons_succ, List.getElem_cons_zero, List.setIfInBounds_toArray, List.set_cons_zero, List.set_cons_succ]
                    refine wpAnyH_take (i := 42) (v := undef) rfl (by kernel_rfl) (by kernel_rfl) (by kernel_rfl) (fun _ _ _ h => h) (.inr ⟨by rfl, rfl⟩) hS ?_
                    simp only [Act.put, List.getElem_toArray, List.getElem_cons_succ, List.getElem_cons_zero, List.setIfInBounds_toArray, List.set_cons_zero, List.set_cons_succ]
                    refine wpAnyH_take (i := 43) (v := undef) rfl (by kernel_rfl) (by kernel_rfl) (by kernel_rfl) (fun _ _ _ h => h) (.inr ⟨by rfl, rfl⟩) hS ?_
                    simp only [Act.put, List.getElem_toArray, List.getElem_cons_succ, List.getElem_cons_zero, List.setIfInBounds_toArray, List.set_cons_zero, List.set_cons_succ]
                    refine wpAnyH_take (i := 44) (v := undef) rfl (by kernel_rfl) (by kernel_rfl) (by kernel_rfl) (fun _ _ _ h => h) (.inr ⟨by rfl, rfl⟩) hS ?_
                    simp only [Act.put, List.getElem_toArray, List.getElem_cons_succ, List.getElem_cons_zero, List.setIfInBounds_toArray, List.set_cons_zero, List.set_cons_succ]
                    refine wpAnyH_take (i := 45) (v := .bool false) rfl (by kernel_rfl) (by kernel_rfl) (by kernel_rfl) (fun _ _ _ h => h) (.inl ⟨by rfl, fun W hW => ?_⟩) hS ?_
                    · obtain ⟨z0, z1, z2⟩ := hW; go_simp
                    simp only [Act.put, List.getElem_toArray, List.getElem_cons_succ, List.getElem_cons_zero, List.setIfInBounds_toArray, List.set_cons_zero, List.set_cons_succ]
                    refine wpAnyH_take (i := 46) (v := .bool false) rfl (by kernel_rfl) (by kernel_rfl) (by kernel_rfl) (fun _ _ _ h => h) (.inl ⟨by rfl, fun W hW => ?_⟩) hS ?_
                    · obtain ⟨z0, z1, z2⟩ := hW; go_simp
                    simp only [Act.put, List.getElem_toArray, List.getElem_cons_succ, List.getElem_cons_zero, List.setIfInBounds_toArray, List.set_cons_zero, List.set_cons_succ]
                    refine wpAnyH_done (by kernel_rfl) ?_ _
                    clear hS
                    go_wp2_with fail
                    all_goals (go_meet; exact ⟨rfl, Lib.hid HBn.out.drew⟩)
                | succ m =>
                  as_aux_lemma =>
                    obtain ⟨p', hp'⟩ := Tide.get_some L' (show m < L'.length by omega)
                    have hlt' := Tide.up_get HP4.out.crew.up (show m < m + 1 by omega) HHp.out hp'
                    have hdl : decide (p.id ≤ p'.id) = false := decide_eq_false (by omega)
                    have m0 : (0 : Int) ≤ (m : Int) := by omega
                    have m1 : (m : Int) < (L'.length : Int) := by omega
                    have hw : IntKind.i64.wrap (((m + 1 : Nat) : Int) - 1) = (m : Int) := by rw [IntWalk.i64_in _ (by omega)]; omega
                    have hw2 : IntKind.i64.wrap (m : Int) = (m : Int) := IntWalk.i64_in _ (by omega)
                    have mz : (0 : Int) < ((m + 1 : Nat) : Int) := by omega
                    clear hlt'
                    have HPW := Lib.hid (HP4.out.fle.below HBn.out)
                    go_wp2_with fail
                    have hS : (fun w' : World => w'.cell? ⟨wr.heap.size, 0, none⟩ = some (.int .i64 p.id) ∧ w'.cell? ⟨wr.heap.size, 1, none⟩ = some (.int .i64 4) ∧ w'.cell? ⟨wr.heap.size, 2, none⟩ = some (.int .i64 p.load)) W.drew := ⟨y0, y1, y2⟩
                    refine wp_region_held_drew (S := (fun w' : World => w'.cell? ⟨wr.heap.size, 0, none⟩ = some (.int .i64 p.id) ∧ w'.cell? ⟨wr.heap.size, 1, none⟩ = some (.int .i64 4) ∧ w'.cell? ⟨wr.heap.size, 2, none⟩ = some (.int .i64 p.load))) (by kernel_rfl) hS (fun _ => ?_)
                    change wpAnyH _ _ _ _ _ 47 #[false, false, false, false, false, false, false, false, false, false, false, false, false, false, false, false, false, false, false, false, false, false, false, false, false, false, false, false, false, false, false, false, false, false, false, false, false, false, false, false, false, false, false, false, false, false, false] _ (World.drew _)
                    refine wpAnyH_take (i := 0) (v := .pointer (some ⟨wr.heap.size, 2, none⟩)) rfl (by kernel_rfl) (by kernel_rfl) (by kernel_rfl) (fun _ _ _ h => h) (.inl ⟨by rfl, fun W hW => ?_⟩) hS ?_
                    · obtain ⟨z0, z1, z2⟩ := hW; go_simp
                    simp only [Act.put, List.getElem_toArray, List.getElem_cons_succ, List.getElem_cons_zero, List.setIfInBounds_toArray, List.set_cons_zero, List.set_cons_succ]
                    refine wpAnyH_take (i := 1) (v := .int .i64 p.load) rfl (by kernel_rfl) (by kernel_rfl) (by kernel_rfl) (fun _ _ _ h => h) (.inl ⟨by rfl, fun W hW => ?_⟩) hS ?_
                    · obtain ⟨z0, z1, z2⟩ := hW; go_simp
                    simp only [Act.put, List.getElem_toArray, List.getElem_cons_succ, List.getElem_cons_zero, List.setIfInBounds_toArray, List.set_cons_zero, List.set_cons_succ]
                    refine wpAnyH_take (i := 2) (v := .bool false) rfl (by kernel_rfl) (by kernel_rfl) (by kernel_rfl) (fun _ _ _ h => h) (.inl ⟨by rfl, fun W hW => ?_⟩) hS ?_
                    · obtain ⟨z0, z1, z2⟩ := hW; go_simp
                    simp only [Act.put, List.getElem_toArray, List.getElem_cons_succ, List.getElem_cons_zero, List.setIfInBounds_toArray, List.set_cons_zero, List.set_cons_succ]
                    refine wpAnyH_take (i := 3) (v := .bool false) rfl (by kernel_rfl) (by kernel_rfl) (by kernel_rfl) (fun _ _ _ h => h) (.inl ⟨by rfl, fun W hW => ?_⟩) hS ?_
                    · obtain ⟨z0, z1, z2⟩ := hW; go_simp
                    simp only [Act.put, List.getElem_toArray, List.getElem_cons_succ, List.getElem_cons_zero, List.setIfInBounds_toArray, List.set_cons_zero, List.set_cons_succ]
                    refine wpAnyH_take (i := 4) (v := .pointer (some ⟨wr.heap.size, 2, none⟩)) rfl (by kernel_rfl) (by kernel_rfl) (by kernel_rfl) (fun _ _ _ h => h) (.inl ⟨by rfl, fun W hW => ?_⟩) hS ?_
                    · obtain ⟨z0, z1, z2⟩ := hW; go_simp
                    simp only [Act.put, List.getElem_toArray, List.getElem_cons_succ, List.getElem_cons_zero, List.setIfInBounds_toArray, List.set_cons_zero, List.set_cons_succ]
                    refine wpAnyH_take (i := 5) (v := .int .i64 p.load) rfl (by kernel_rfl) (by kernel_rfl) (by kernel_rfl) (fun _ _ _ h => h) (.inl ⟨by rfl, fun W hW => ?_⟩) hS ?_
                    · obtain ⟨z0, z1, z2⟩ := hW; go_simp
                    simp only [Act.put, List.getElem_toArray, List.getElem_cons_succ, List.getElem_cons_zero, List.setIfInBounds_toArray, List.set_cons_zero, List.set_cons_succ]
                    refine wpAnyH_take (i := 6) (v := .int .i64 n) rfl (by kernel_rfl) (by kernel_rfl) (by kernel_rfl) (fun _ _ _ h => h) (.inl ⟨by rfl, fun W hW => ?_⟩) hS ?_
                    · obtain ⟨z0, z1, z2⟩ := hW; go_simp
                    simp only [Act.put, List.getElem_toArray, List.getElem_cons_succ, List.getElem_cons_zero, List.setIfInBounds_toArray, List.set_cons_zero, List.set_cons_succ]
                    refine wpAnyH_take (i := 7) (v := .int .i64 (if (100 : Int) < n then (100 : Int) else n)) rfl (by kernel_rfl) (by kernel_rfl) (by kernel_rfl) (fun _ _ _ h => h) (.inl ⟨by rfl, fun W hW => ?_⟩) hS ?_
                    · obtain ⟨z0, z1, z2⟩ := hW; go_simp
                    simp only [Act.put, List.getElem_toArray, List.getElem_cons_succ, List.getElem_cons_zero, List.setIfInBounds_toArray, List.set_cons_zero, List.set_cons_succ]
                    refine wpAnyH_take (i := 8) (v := .int .i64 (if (1 : Int) < (if (100 : Int) < n then (100 : Int) else n) then (if (100 : Int) < n then (100 : Int) else n) else 1)) rfl (by kernel_rfl) (by kernel_rfl) (by kernel_rfl) (fun _ _ _ h => h) (.inl ⟨by rfl, fun W hW => ?_⟩) hS ?_
                    · obtain ⟨z0, z1, z2⟩ := hW; go_simp
                    simp only [Act.put, List.getElem_toArray, List.getElem_cons_succ, List.getElem_cons_zero, List.setIfInBounds_toArray, List.set_cons_zero, List.set_cons_succ]
                    refine wpAnyH_take (i := 9) (v := .bool (decide ((if (1 : Int) < (if (100 : Int) < n then (100 : Int) else n) then (if (100 : Int) < n then (100 : Int) else n) else 1) < p.load))) rfl (by kernel_rfl) (by kernel_rfl) (by kernel_rfl) (fun _ _ _ h => h) (.inl ⟨by rfl, fun W hW => ?_⟩) hS ?_
                    · obtain ⟨z0, z1, z2⟩ := hW; go_simp
                    simp only [Act.put, List.getElem_toArray, List.getElem_cons_succ, List.getElem_cons_zero, List.setIfInBounds_toArray, List.set_cons_zero, List.set_cons_succ]
                    rw [hmx]
                    generalize (if (1 : Int) < (if (100 : Int) < n then (100 : Int) else n) then (if (100 : Int) < n then (100 : Int) else n) else 1) = mx1
                    generalize (if (100 : Int) < n then (100 : Int) else n) = mx0
                    refine wpAnyH_take (i := 10) (v := .bool false) rfl (by kernel_rfl) (by kernel_rfl) (by kernel_rfl) (fun _ _ _ h => h) (.inl ⟨by rfl, fun W hW => ?_⟩) hS ?_
                    · obtain ⟨z0, z1, z2⟩ := hW; go_simp
                    simp only [Act.put, List.getElem_toArray, List.getElem_cons_succ, List.getElem_cons_zero, List.setIfInBounds_toArray, List.set_cons_zero, List.set_cons_succ]
                    refine wpAnyH_take (i := 11) (v := .bool false) rfl (by kernel_rfl) (by kernel_rfl) (by kernel_rfl) (fun _ _ _ h => h) (.inl ⟨by rfl, fun W hW => ?_⟩) hS ?_
                    · obtain ⟨z0, z1, z2⟩ := hW; go_simp
                    simp only [Act.put, List.getElem_toArray, List.getElem_cons_succ, List.getElem_cons_zero, List.setIfInBounds_toArray, List.set_cons_zero, List.set_cons_succ]
                    refine wpAnyH_take (i := 12) (v := .pointer (some ⟨wr.heap.size, 2, none⟩)) rfl (by kernel_rfl) (by kernel_rfl) (by kernel_rfl) (fun _ _ _ h => h) (.inl ⟨by rfl, fun W hW => ?_⟩) hS ?_
                    · obtain ⟨z0, z1, z2⟩ := hW; go_simp
                    simp only [Act.put, List.getElem_toArray, List.getElem_cons_succ, List.getElem_cons_zero, List.setIfInBounds_toArray, List.set_cons_zero, List.set_cons_succ]
                    refine wpAnyH_take (i := 13) (v := .int .i64 p.load) rfl (by kernel_rfl) (by kernel_rfl) (by kernel_rfl) (fun _ _ _ h => h) (.inl ⟨by rfl, fun W hW => ?_⟩) hS ?_
                    · obtain ⟨z0, z1, z2⟩ := hW; go_simp
                    simp only [Act.put, List.getElem_toArray, List.getElem_cons_succ, List.getElem_cons_zero, List.setIfInBounds_toArray, List.set_cons_zero, List.set_cons_succ]
                    refine wpAnyH_take (i := 14) (v := .bool true) rfl (by kernel_rfl) (by kernel_rfl) (by kernel_rfl) (fun _ _ _ h => h) (.inl ⟨by rfl, fun W hW => ?_⟩) hS ?_
                    · obtain ⟨z0, z1, z2⟩ := hW; go_simp
                    simp only [Act.put, List.getElem_toArray, List.getElem_cons_succ, List.getElem_cons_zero, List.setIfInBounds_toArray, List.set_cons_zero, List.set_cons_succ]
                    refine wpAnyH_take (i := 15) (v := .bool true) rfl (by kernel_rfl) (by kernel_rfl) (by kernel_rfl) (fun _ _ _ h => h) (.inl ⟨by rfl, fun W hW => ?_⟩) hS ?_
                    · obtain ⟨z0, z1, z2⟩ := hW; go_simp
                    simp only [Act.put, List.getElem_toArray, List.getElem_cons_succ, List.getElem_cons_zero, List.setIfInBounds_toArray, List.set_cons_zero, List.set_cons_succ]
                    refine wpAnyH_take (i := 16) (v := .pointer (some ⟨wr.heap.size, 1, none⟩)) rfl (by kernel_rfl) (by kernel_rfl) (by kernel_rfl) (fun _ _ _ h => h) (.inl ⟨by rfl, fun W hW => ?_⟩) hS ?_
                    · obtain ⟨z0, z1, z2⟩ := hW; go_simp
                    simp only [Act.put, List.getElem_toArray, List.getElem_cons_succ, List.getElem_cons_zero, List.setIfInBounds_toArray, List.set_cons_zero, List.set_cons_succ]
                    refine wpAnyH_take (i := 17) (v := .int .i64 4) rfl (by kernel_rfl) (by kernel_rfl) (by kernel_rfl) (fun _ _ _ h => h) (.inl ⟨by rfl, fun W hW => ?_⟩) hS ?_
                    · obtain ⟨z0, z1, z2⟩ := hW; go_simp
                    simp only [Act.put, List.getElem_toArray, List.getElem_cons_succ, List.getElem_cons_zero, List.setIfInBounds_toArray, List.set_cons_zero, List.set_cons_succ]
                    refine wpAnyH_take (i := 18) (v := .bool false) rfl (by kernel_rfl) (by kernel_rfl) (by kernel_rfl) (fun _ _ _ h => h) (.inl ⟨by rfl, fun W hW => ?_⟩) hS ?_
                    · obtain ⟨z0, z1, z2⟩ := hW; go_simp
                    simp only [Act.put, List.getElem_toArray, List.getElem_cons_succ, List.getElem_cons_zero, List.setIfInBounds_toArray, List.set_cons_zero, List.set_cons_succ]
                    refine wpAnyH_take (i := 19) (v := .bool false) rfl (by kernel_rfl) (by kernel_rfl) (by kernel_rfl) (fun _ _ _ h => h) (.inl ⟨by rfl, fun W hW => ?_⟩) hS ?_
                    · obtain ⟨z0, z1, z2⟩ := hW; go_simp
                    simp only [Act.put, List.getElem_toArray, List.getElem_cons_succ, List.getElem_cons_zero, List.setIfInBounds_toArray, List.set_cons_zero, List.set_cons_succ]
                    refine wpAnyH_take (i := 20) (v := .bool false) rfl (by kernel_rfl) (by kernel_rfl) (by kernel_rfl) (fun _ _ _ h => h) (.inl ⟨by rfl, fun W hW => ?_⟩) hS ?_
                    · obtain ⟨z0, z1, z2⟩ := hW; go_simp
                    simp only [Act.put, List.getElem_toArray, List.getElem_cons_succ, List.getElem_cons_zero, List.setIfInBounds_toArray, List.set_cons_zero, List.set_cons_succ]
                    refine wpAnyH_take (i := 21) (v := .bool false) rfl (by kernel_rfl) (by kernel_rfl) (by kernel_rfl) (fun _ _ _ h => h) (.inl ⟨by rfl, fun W hW => ?_⟩) hS ?_
                    · obtain ⟨z0, z1, z2⟩ := hW; go_simp
                    simp only [Act.put, List.getElem_toArray, List.getElem_cons_succ, List.getElem_cons_zero, List.setIfInBounds_toArray, List.set_cons_zero, List.set_cons_succ]
                    refine wpAnyH_take (i := 22) (v := .pointer (some ⟨wr.heap.size, 1, none⟩)) rfl (by kernel_rfl) (by kernel_rfl) (by kernel_rfl) (fun _ _ _ h => h) (.inl ⟨by rfl, fun W hW => ?_⟩) hS ?_
                    · obtain ⟨z0, z1, z2⟩ := hW; go_simp
                    simp only [Act.put, List.getElem_toArray, List.getElem_cons_succ, List.getElem_cons_zero, List.setIfInBounds_toArray, List.set_cons_zero, List.set_cons_succ]
                    refine wpAnyH_take (i := 23) (v := .int .i64 4) rfl (by kernel_rfl) (by kernel_rfl) (by kernel_rfl) (fun _ _ _ h => h) (.inl ⟨by rfl, fun W hW => ?_⟩) hS ?_
                    · obtain ⟨z0, z1, z2⟩ := hW; go_simp
                    simp only [Act.put, List.getElem_toArray, List.getElem_cons_succ, List.getElem_cons_zero, List.setIfInBounds_toArray, List.set_cons_zero, List.set_cons_succ]
                    refine wpAnyH_take (i := 24) (v := .bool true) rfl (by kernel_rfl) (by kernel_rfl) (by kernel_rfl) (fun _ _ _ h => h) (.inl ⟨by rfl, fun W hW => ?_⟩) hS ?_
                    · obtain ⟨z0, z1, z2⟩ := hW; go_simp
                    simp only [Act.put, List.getElem_toArray, List.getElem_cons_succ, List.getElem_cons_zero, List.setIfInBounds_toArray, List.set_cons_zero, List.set_cons_succ]
                    refine wpAnyH_take (i := 25) (v := .bool true) rfl (by kernel_rfl) (by kernel_rfl) (by kernel_rfl) (fun _ _ _ h => h) (.inl ⟨by rfl, fun W hW => ?_⟩) hS ?_
                    · obtain ⟨z0, z1, z2⟩ := hW; go_simp
                    simp only [Act.put, List.getElem_toArray, List.getElem_cons_succ, List.getElem_cons_zero, List.setIfInBounds_toArray, List.set_cons_zero, List.set_cons_succ]
                    refine wpAnyH_take (i := 26) (v := .pointer (some ⟨wr.heap.size, 2, none⟩)) rfl (by kernel_rfl) (by kernel_rfl) (by kernel_rfl) (fun _ _ _ h => h) (.inl ⟨by rfl, fun W hW => ?_⟩) hS ?_
                    · obtain ⟨z0, z1, z2⟩ := hW; go_simp
                    simp only [Act.put, List.getElem_toArray, List.getElem_cons_succ, List.getElem_cons_zero, List.setIfInBounds_toArray, List.set_cons_zero, List.set_cons_succ]
                    refine wpAnyH_take (i := 27) (v := .int .i64 p.load) rfl (by kernel_rfl) (by kernel_rfl) (by kernel_rfl) (fun _ _ _ h => h) (.inl ⟨by rfl, fun W hW => ?_⟩) hS ?_
                    · obtain ⟨z0, z1, z2⟩ := hW; go_simp
                    simp only [Act.put, List.getElem_toArray, List.getElem_cons_succ, List.getElem_cons_zero, List.setIfInBounds_toArray, List.set_cons_zero, List.set_cons_succ]
                    refine wpAnyH_take (i := 28) (v := .bool false) rfl (by kernel_rfl) (by kernel_rfl) (by kernel_rfl) (fun _ _ _ h => h) (.inl ⟨by rfl, fun W hW => ?_⟩) hS ?_
                    · obtain ⟨z0, z1, z2⟩ := hW; go_simp
                    simp only [Act.put, List.getElem_toArray, List.getElem_cons_succ, List.getElem_cons_zero, List.setIfInBounds_toArray, List.set_cons_zero, List.set_cons_succ]
                    refine wpAnyH_take (i := 29) (v := .bool false) rfl (by kernel_rfl) (by kernel_rfl) (by kernel_rfl) (fun _ _ _ h => h) (.inl ⟨by rfl, fun W hW => ?_⟩) hS ?_
                    · obtain ⟨z0, z1, z2⟩ := hW; go_simp
                    simp only [Act.put, List.getElem_toArray, List.getElem_cons_succ, List.getElem_cons_zero, List.setIfInBounds_toArray, List.set_cons_zero, List.set_cons_succ]
                    refine wpAnyH_take (i := 30) (v := .bool false) rfl (by kernel_rfl) (by kernel_rfl) (by kernel_rfl) (fun _ _ _ h => h) (.inl ⟨by rfl, fun W hW => ?_⟩) hS ?_
                    · obtain ⟨z0, z1, z2⟩ := hW; go_simp
                    simp only [Act.put, List.getElem_toArray, List.getElem_cons_succ, List.getElem_cons_zero, List.setIfInBounds_toArray, List.set_cons_zero, List.set_cons_succ]
                    refine wpAnyH_take (i := 31) (v := .bool false) rfl (by kernel_rfl) (by kernel_rfl) (by kernel_rfl) (fun _ _ _ h => h) (.inl ⟨by rfl, fun W hW => ?_⟩) hS ?_
                    · obtain ⟨z0, z1, z2⟩ := hW; go_simp
                    simp only [Act.put, List.getElem_toArray, List.getElem_cons_succ, List.getElem_cons_zero, List.setIfInBounds_toArray, List.set_cons_zero, List.set_cons_succ]
                    refine wpAnyH_take (i := 32) (v := .int .i64 ((m + 1 : Nat) : Int)) rfl (by kernel_rfl) (by kernel_rfl) (by kernel_rfl) (fun _ _ _ h => h) (.inl ⟨by rfl, fun W hW => ?_⟩) hS ?_
                    · obtain ⟨z0, z1, z2⟩ := hW; go_simp
                    simp only [Act.put, List.getElem_toArray, List.getElem_cons_succ, List.getElem_cons_zero, List.setIfInBounds_toArray, List.set_cons_zero, List.set_cons_succ]
                    refine wpAnyH_take (i := 33) (v := .bool true) rfl (by kernel_rfl) (by kernel_rfl) (by kernel_rfl) (fun _ _ _ h => h) (.inl ⟨by rfl, fun W hW => ?_⟩) hS ?_
                    · obtain ⟨z0, z1, z2⟩ := hW; go_simp
                    simp only [Act.put, List.getElem_toArray, List.getElem_cons_succ, List.getElem_cons_zero, List.setIfInBounds_toArray, List.set_cons_zero, List.set_cons_succ]
                    refine wpAnyH_take (i := 34) (v := .bool true) rfl (by kernel_rfl) (by kernel_rfl) (by kernel_rfl) (fun _ _ _ h => h) (.inl ⟨by rfl, fun W hW => ?_⟩) hS ?_
                    · obtain ⟨z0, z1, z2⟩ := hW; go_simp
                    simp only [Act.put, List.getElem_toArray, List.getElem_cons_succ, List.getElem_cons_zero, List.setIfInBounds_toArray, List.set_cons_zero, List.set_cons_succ]
                    refine wpAnyH_take (i := 35) (v := .pointer (some ⟨g, 0, none⟩)) rfl (by kernel_rfl) (by kernel_rfl) (by kernel_rfl) (fun _ _ _ h => h) (.inl ⟨by rfl, fun W hW => ?_⟩) hS ?_
                    · obtain ⟨z0, z1, z2⟩ := hW; go_simp
                    simp only [Act.put, List.getElem_toArray, List.getElem_cons_succ, List.getElem_cons_zero, List.setIfInBounds_toArray, List.set_cons_zero, List.set_cons_succ]
                    refine wpAnyH_take (i := 37) (v := .int .i64 ((m + 1 : Nat) : Int)) rfl (by kernel_rfl) (by kernel_rfl) (by kernel_rfl) (fun _ _ _ h => h) (.inl ⟨by rfl, fun W hW => ?_⟩) hS ?_
                    · obtain ⟨z0, z1, z2⟩ := hW; go_simp
                    simp only [Act.put, List.getElem_toArray, List.getElem_cons_succ, List.getElem_cons_zero, List.setIfInBounds_toArray, List.set_cons_zero, List.set_cons_succ]
                    refine wpAnyH_take (i := 38) (v := .int .i64 (m : Int)) rfl (by kernel_rfl) (by kernel_rfl) (by kernel_rfl) (fun _ _ _ h => h) (.inl ⟨by rfl, fun W hW => ?_⟩) hS ?_
                    · obtain ⟨z0, z1, z2⟩ := hW; go_simp
                    simp only [Act.put, List.getElem_toArray, List.getElem_cons_succ, List.getElem_cons_zero, List.setIfInBounds_toArray, List.set_cons_zero, List.set_cons_succ]
                    refine wpAnyH_take (i := 42) (v := .pointer (some ⟨wr.heap.size, 0, none⟩)) rfl (by kernel_rfl) (by kernel_rfl) (by kernel_rfl) (fun _ _ _ h => h) (.inl ⟨by rfl, fun W hW => ?_⟩) hS ?_
                    · obtain ⟨z0, z1, z2⟩ := hW; go_simp
                    simp only [Act.put, List.getElem_toArray, List.getElem_cons_succ, List.getElem_cons_zero, List.setIfInBounds_toArray, List.set_cons_zero, List.set_cons_succ]
                    refine wpAnyH_take (i := 43) (v := .int .i64 p.id) rfl (by kernel_rfl) (by kernel_rfl) (by kernel_rfl) (fun _ _ _ h => h) (.inl ⟨by rfl, fun W hW => ?_⟩) hS ?_
                    · obtain ⟨z0, z1, z2⟩ := hW; go_simp
                    simp only [Act.put, List.getElem_toArray, List.getElem_cons_succ, List.getElem_cons_zero, List.setIfInBounds_toArray, List.set_cons_zero, List.set_cons_succ]
                    refine wpAnyH_ready (rs := [36]) (by kernel_rfl) (by simp) (AllReadyH.cons rfl (fun K hK => ?_) AllReadyH.nil)
                    go_simp
                    refine (fleAll S' g v' L' last' _ _ HPW.out.drew).mono ?_
                    rintro e w5 ⟨u5, rfl, o5, b5⟩
                    obtain ⟨b6, cap6, rfl, _, d0, _, _⟩ := row_pod o5 hp'
                    have X5 := HXp.out.drew.below b5 HXp.out.drew.inside
                    have hS2 : (fun w' : World => w'.cell? ⟨wr.heap.size, 0, none⟩ = some (.int .i64 p.id) ∧ w'.cell? ⟨wr.heap.size, 1, none⟩ = some (.int .i64 4) ∧ w'.cell? ⟨wr.heap.size, 2, none⟩ = some (.int .i64 p.load)) w5 := ⟨X5.here (i := 0) rfl, by rw [X5.here (i := 1) rfl, HEq.out] <;> rfl, X5.here (i := 2) rfl⟩
                    clear X5
                    go_wp2_with fail
                    refine hK.out _ _ hS2 (fun _ => ?_)
                    clear hK K hS
                    refine wpAnyH_take (i := 39) (v := .pointer (some ⟨b6, m * 3, none⟩)) rfl (by kernel_rfl) (by kernel_rfl) (by kernel_rfl) (fun _ _ _ h => h) (.inl ⟨by rfl, fun W hW => ?_⟩) hS2 ?_
                    · obtain ⟨z0, z1, z2⟩ := hW; go_simp
                    simp only [Act.put, List.getElem_toArray, List.getElem_cons_succ, List.getElem_cons_zero, List.setIfInBounds_toArray, List.set_cons_zero, List.set_cons_succ]
                    refine wpAnyH_take (i := 40) (v := .pointer (some ⟨b6, m * 3, none⟩)) rfl (by kernel_rfl) (by kernel_rfl) (by kernel_rfl) (fun _ _ _ h => h) (.inl ⟨by rfl, fun W hW => ?_⟩) hS2 ?_
                    · obtain ⟨z0, z1, z2⟩ := hW; go_simp
                    simp only [Act.put, List.getElem_toArray, List.getElem_cons_succ, List.getElem_cons_zero, List.setIfInBounds_toArray, List.set_cons_zero, List.set_cons_succ]
                    refine wpAnyH_ready (rs := [41]) (by kernel_rfl) (by simp) (AllReadyH.cons rfl (fun K hK => ?_) AllReadyH.nil)
                    go_simp
                    refine hK.out _ _ hS2 (fun _ => ?_)
                    clear hK K
                    refine wpAnyH_take (i := 44) (v := .bool false) rfl (by kernel_rfl) (by kernel_rfl) (by kernel_rfl) (fun _ _ _ h => h) (.inl ⟨by rfl, fun W hW => ?_⟩) hS2 ?_
                    · obtain ⟨z0, z1, z2⟩ := hW; go_simp
                    simp only [Act.put, List.getElem_toArray, List.getElem_cons_succ, List.getElem_cons_zero, List.setIfInBounds_toArray, List.set_cons_zero, List.set_cons_succ]
                    try simp only [hdl]
                    refine wpAnyH_take (i := 45) (v := .bool false) rfl (by kernel_rfl) (by kernel_rfl) (by kernel_rfl) (fun _ _ _ h => h) (.inl ⟨by rfl, fun W hW => ?_⟩) hS2 ?_
                    · obtain ⟨z0, z1, z2⟩ := hW; go_simp
                    simp only [Act.put, List.getElem_toArray, List.getElem_cons_succ, List.getElem_cons_zero, List.setIfInBounds_toArray, List.set_cons_zero, List.set_cons_succ]
                    refine wpAnyH_take (i := 46) (v := .bool false) rfl (by kernel_rfl) (by kernel_rfl) (by kernel_rfl) (fun _ _ _ h => h) (.inl ⟨by rfl, fun W hW => ?_⟩) hS2 ?_
                    · obtain ⟨z0, z1, z2⟩ := hW; go_simp
                    simp only [Act.put, List.getElem_toArray, List.getElem_cons_succ, List.getElem_cons_zero, List.setIfInBounds_toArray, List.set_cons_zero, List.set_cons_succ]
                    refine wpAnyH_done (by kernel_rfl) ?_ _
                    have HBz := Lib.hid (HBn.out.drew.trans (b5.mono HBn.out.drew.size))
                    clear o5 b5 d0 hS2
                    go_wp2_with fail
                    all_goals (go_meet; exact ⟨rfl, HBz⟩)
            case rest =>
              clear HBn HXp
              obtain ⟨rfl, HBx⟩ := hcut
              go_wp2_with fail
              go_roundw
              case rel => exact ⟨t + 1, by omega, by go_num, HBx⟩
              case measure => simp [intOf]; omega
          · have HN := Lib.hid (show FleRun 88 w wr g (mostOf n) (k + 1) from ⟨_, _, _, _, HP4.out.read HB.out, HLa.out, HLn.out⟩)
            go_wp2_with fail
            go_roundw
            case rel => exact ⟨k + 1, by omega, by go_num, HN⟩
            case measure => simp [intOf]; omega
    · have HN := Lib.hid HF0.out.below
      clear HF0
      go_wp2_with fail
      go_ret
      exact ⟨rfl, HN.out⟩
end Go.Proofs.Ytgcdomoecikooaa
