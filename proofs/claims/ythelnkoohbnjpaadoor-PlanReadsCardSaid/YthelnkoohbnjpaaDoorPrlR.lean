/- The contract of the reference's ReadPlan. -/
import Derived.Test.YthelnkoohbnjpaaDoorPrlC
import Derived.Test.YthelnkoohbnjpaaDoorPrlA
import Derived.Test.YthelnkoohbnjpaaDoorPrdY
import Derived.Test.YthelnkoohbnjpaaDoorPrgM
set_option linter.unusedVariables false
set_option linter.unusedSimpArgs false
namespace Go.Proofs.YthelnkoohbnjpaaDoor
open Go.RowKit
set_option linter.unusedVariables false
theorem planLineAny (w0 W : World) (gp bw cap i : Nat) (v : Value) (pl : Pln) (ws : List ByteArray) (h : RlS w0 W gp v pl) (hi : i ≤ 100000) (hw : WdsAt W bw 0 ws) (hbg : bw ≠ gp) (hs : ∀ x ∈ ws, x.size ≤ 1000000) (h0 : 1 ≤ ws.length) (hl : ws.length ≤ 1000001) (hc : ws.length ≤ cap) (hm : pl.trigs.length ≤ 100000) :
    Calls Tryd.prog 50 #[.pointer (some ⟨gp, 0, none⟩), .int .i64 (i : Int), .slice (some ⟨bw, 0, none⟩) ws.length cap] W (RlPost w0 gp i pl ws) := by
  rcases i with _ | _ | _ | _ | i
  · exact planLine0 w0 W gp bw cap v pl ws h hw hbg hs h0 hl hc
  · exact planLine1 w0 W gp bw cap v pl ws h hw hbg hs h0 hl hc
  · exact planLine2 w0 W gp bw cap v pl ws h hw hbg hs h0 hl hc
  · exact planLine3 w0 W gp bw cap v pl ws h hw hbg hs h0 hl hc
  · exact planLine4 w0 W gp bw cap (i + 1 + 1 + 1 + 1) v pl ws h (by omega) hi hw hbg hs h0 hl hc hm
theorem refPlanAt (p : Pln) (A : Option Addr) (cap : Nat) (w : World) (ht : Tide.ListIn w 17 Trg.enc (.slice A p.trigs.length cap) p.trigs) (hf : ∀ t ∈ p.trigs, t.fits) (hn : p.name.size ≤ 9223372036854775807) (hl : p.trigs.length ≤ 9223372036854775807) :
    Calls Tryd.prog 17 #[.agg (plnC p (.slice A p.trigs.length cap))] w fun e w' => e = .returned (.int .i64 (planE p)) ∧ Below w.heap.size w w' := by
  obtain ⟨name, mn, mx, poll, cool, tol, back, after, shift, ⟨u0, u1, u2, u3⟩, ⟨d0, d1, d2, d3⟩, ts⟩ := p
  exact refPlan name mn mx poll cool tol back after shift u0 u1 u2 u3 d0 d1 d2 d3 A cap ts w ht hf hn hl
/-- in front of line i -/
structure RlnS (w1 wr : World) (s : ByteArray) (R : Option Pln × Nat) (gp i : Nat) (v : Value) (p : Pln) (rest : ByteArray) : Prop where
  st : RlS w1 wr gp v p
  reads : Reads i p rest R
  left : Left s rest i
  fits : ∀ t ∈ p.trigs, t.fits
  many : p.trigs.length ≤ i
  size : i + rest.size ≤ 3000
theorem line_many {i : Nat} {p q : Pln} {ws : List ByteArray} (h : lineN i p ws = some q) : q.trigs.length ≤ p.trigs.length + 1 := by
  rcases i with _ | _ | _ | _ | i
  · have e := ite_some (c := headOk ws = true) h
    rw [← e]; simp
  · have e := ite_some (c := rowOk wdRest ws = true) h
    rw [← e]; simp
  · have e := ite_some (c := rowOk wdUp ws = true) h
    rw [← e]; simp
  · have e := ite_some (c := rowOk wdDown ws = true) h
    rw [← e]; simp
  · have h' : (trigN ws).map (fun t => { p with trigs := p.trigs ++ [t] }) = some q := h
    obtain ⟨t, ht, rfl⟩ := Option.map_eq_some_iff.1 h'
    show (p.trigs ++ [t]).length ≤ _
    simp
theorem lines_len (s : ByteArray) : 1 ≤ (Tide.piecesB 10 s).length ∧ (Tide.piecesB 10 s).length ≤ s.size + 1 := ⟨Tide.piecesB_pos 10 s, Tide.piecesB_few 10 s⟩
theorem words_few' (rest : ByteArray) (h : rest.size ≤ 3000) : 1 ≤ (wordsOf rest).length ∧ (wordsOf rest).length ≤ 1000001 ∧ ∀ x ∈ wordsOf rest, x.size ≤ 1000000 := words_len rest (by omega)
set_option maxRecDepth 100000 in
set_option maxHeartbeats 12800000 in
theorem refReadPlan (s : ByteArray) (w : World) (hs : s.size ≤ 9223372036854775807) : Calls Tryd.prog 22 #[.string s] w (PlanPost s w) := by
  have HZ := Lib.hid (show Tide.At (w.alloc (.cells #[.string ⟨#[]⟩, .int .i64 0, .int .i64 0, .int .i64 0, .int .i64 0, .int .i64 0, .int .i64 0, .int .i64 0, .int .i64 0, .int .i64 0, .int .i64 0, .int .i64 0, .int .i64 0, .int .i64 0, .int .i64 0, .int .i64 0, .int .i64 0, .slice none 0 0] 42)) w.heap.size 42 (plnC zeroP (.slice none 0 0)) from Tide.At.made w 42 (plnC zeroP (.slice none 0 0)))
  have HB := Lib.hid ((Below.refl w.heap.size w).alloc (Nat.le_refl _) (.cells #[.string ⟨#[]⟩, .int .i64 0, .int .i64 0, .int .i64 0, .int .i64 0, .int .i64 0, .int .i64 0, .int .i64 0, .int .i64 0, .int .i64 0, .int .i64 0, .int .i64 0, .int .i64 0, .int .i64 0, .int .i64 0, .int .i64 0, .int .i64 0, .slice none 0 0] 42))
  by_cases hlen : 2048 < s.size
  · have hl : (2048 : Int) < (s.size : Int) := by omega
    have HR := Lib.hid (read_long hlen)
    clear hlen
    go_enter Tryd.func22, Tryd.ntmps22
    go_upto_region 1 with fail
    generalize w.alloc (.cells #[.string ⟨#[]⟩, .int .i64 0, .int .i64 0, .int .i64 0, .int .i64 0, .int .i64 0, .int .i64 0, .int .i64 0, .int .i64 0, .int .i64 0, .int .i64 0, .int .i64 0, .int .i64 0, .int .i64 0, .int .i64 0, .int .i64 0, .int .i64 0, .slice none 0 0] 42) = W1 at HZ HB ⊢
    go_wp2_with (first | refine build_law rfl 42 _ rfl [] rfl _ zero_built ?_ | refine wpList_store_row rfl 42 (.tmp 2) (.tmp 13) rfl w.heap.size (plnC zeroP (.slice none 0 0)) rfl rfl 42 (plnC zeroP (.slice none 0 0)) HZ.out (by kernel_rfl) rfl (by kernel_rfl) ?_)
    have hA := row_set2 HZ.out (plnC zeroP (.slice none 0 0))
    refine bodyPost_ret (v := .tuple #[.agg (plnC zeroP (.slice none 0 0)), .int .i64 0, .int .i64 2]) (by exact results_cell3 Tryd.results22 _ _ w.heap.size 42 _ (0, 0) _ rfl hA Tryd.underlying42 rfl (by kernel_rfl) _ _ rfl rfl) rfl ?_
    exact post_zero HR.out (below_row HB.out (Nat.le_refl _) _)
  · have hl : (s.size : Int) ≤ 2048 := by omega
    have hl2 : s.size ≤ 2048 := by omega
    obtain ⟨R, hR⟩ : ∃ R, readGo (s.size + 1) 0 zeroP s = R := ⟨_, rfl⟩
    have HRd := Lib.hid (show Reads 0 zeroP s R from ⟨s.size + 1, by omega, hR⟩)
    have HNo := Lib.hid (fun (k : Nat) (h : R = (none, k)) => read_none hl2 (hR.trans h))
    have HYes := Lib.hid (fun (k : Nat) (p : Pln) (h : R = (some p, k)) => read_some hl2 (hR.trans h))
    have HNm := Lib.hid (fun (p : Pln) (k : Nat) (h : R = (some p, k)) => read_name (hR.trans h))
    have HPc := Lib.hid (fun (W : World) => (refPcs 10 s (by omega) W : Calls Tryd.prog 29 #[.string s, .int .u8 10] W (PcsPost 10 s W)))
    obtain ⟨n1, n2⟩ := lines_len s
    obtain ⟨L, hL⟩ : ∃ L, Tide.piecesB 10 s = L := ⟨_, rfl⟩
    have HL := Lib.hid hL
    obtain ⟨E, hE⟩ : ∃ E, L.length = E + 1 := ⟨L.length - 1, by rw [← hL]; omega⟩
    have HE := Lib.hid hE
    rw [hL, hE] at n1 n2
    have n3 : (E : Int) ≤ 2048 := by omega
    clear hlen hR hL hE n1
    go_enter Tryd.func22, Tryd.ntmps22
    go_upto_region 1 with fail
    generalize w.alloc (.cells #[.string ⟨#[]⟩, .int .i64 0, .int .i64 0, .int .i64 0, .int .i64 0, .int .i64 0, .int .i64 0, .int .i64 0, .int .i64 0, .int .i64 0, .int .i64 0, .int .i64 0, .int .i64 0, .int .i64 0, .int .i64 0, .int .i64 0, .int .i64 0, .slice none 0 0] 42) = W1 at HZ HB ⊢
    have hzz := HZ.out.inside
    go_upto_region 3 with fail
    go_wp2_with fail
    refine (HPc.out W1).mono ?_
    rintro e w1 ⟨gl, cl, rfl, hrow, hb1, hcl, hcl2⟩
    rw [HL.out, HE.out] at hcl ⊢
    rw [HL.out] at hrow
    have HRow := Lib.hid hrow
    have HZ1 := Lib.hid (HZ.out.below hb1 hzz)
    have HB1 := Lib.hid (HB.out.trans (hb1.mono HB.out.size))
    have hgl := hrow.inside
    clear hrow hb1 HPc HB HZ hcl2
    have HS0 := Lib.hid (show RlnS w1 (w1.alloc (.cells #[.string ⟨#[]⟩, .int .i64 0, .int .i64 0, .int .i64 0, .int .i64 0, .int .i64 0, .int .i64 0, .int .i64 0, .int .i64 0, .int .i64 0, .int .i64 0, .int .i64 0, .int .i64 0, .int .i64 0, .int .i64 0, .int .i64 0, .int .i64 0, .slice none 0 0] 42)) s R w1.heap.size 0 (.slice none 0 0) zeroP s from
      ⟨⟨Tide.At.made w1 42 (plnC zeroP (.slice none 0 0)), Tide.OwnRow.nil _ _ _ _, (Below.refl _ _).alloc (Nat.le_refl _) _, Nat.le_refl _⟩, HRd.out, Left.start s, (fun t ht => by cases ht), Nat.zero_le _, by omega⟩)
    go_upto_region 6 with fail
    generalize w1.alloc (.cells #[.string ⟨#[]⟩, .int .i64 0, .int .i64 0, .int .i64 0, .int .i64 0, .int .i64 0, .int .i64 0, .int .i64 0, .int .i64 0, .int .i64 0, .int .i64 0, .int .i64 0, .int .i64 0, .int .i64 0, .int .i64 0, .int .i64 0, .int .i64 0, .slice none 0 0] 42) = W2 at HS0 ⊢
    obtain ⟨gp, hgp⟩ : ∃ gp, w1.heap.size = gp := ⟨_, rfl⟩
    have HGp := Lib.hid hgp
    rw [hgp] at HS0 ⊢
    clear hgp
    go_wp2_with fail
    go_loopg [8] 2050 (fun k y wr => ∃ (i : Nat) (v : Value) (p : Pln) (rest : ByteArray), y = .int .i64 (i : Int) ∧ Hid (RlnS w1 wr s R gp i v p rest) ∧ Hid (E + 2 ≤ i + k ∧ i ≤ E + 1))
    case atStart => exact ⟨0, .slice none 0 0, zeroP, s, rfl, HS0, Lib.hid ⟨by omega, by omega⟩⟩
    case round =>
      clear HS0
      obtain ⟨i, v, p, rest, rfl, HK, HM⟩ := hrel
      have hsz := HK.out.size
      have hie := HM.out.2
      have i0 : (0 : Int) ≤ (i : Int) := by omega
      have i1 : (i : Int) ≤ 3000 := by omega
      have HBr := Lib.hid HK.out.st.below
      have HZr := Lib.hid (HZ1.out.below HBr.out HZ1.out.inside)
      have HBw := Lib.hid (HB1.out.trans (HBr.out.mono HB1.out.size))
      have HRw := Lib.hid (HRow.out.below HBr.out hgl)
      have HLine := HK.out.left.line
      rw [HL.out] at HLine
      have HMore := HK.out.left.more
      rw [HL.out, HE.out] at HMore
      by_cases hc : i < E
      · -- a line that has its end
        have hcut : Tide.cutZ 10 rest = true := by rcases HMore with h | h; exact h.1; omega
        have hpos : i < 4 ∨ 0 < rest.size := by
          by_cases h : 0 < rest.size
          · exact .inr h
          · have := Tide.cutY_less hcut; omega
        have c0 : wr.cell? ⟨gl, i, none⟩ = some (.string (Tide.cutX 10 rest)) := HRw.out.cell (by rw [List.getElem?_map, HLine]; rfl)
        have hxs := Tide.cutX_size 10 rest
        have HPx := Lib.hid (fun (W : World) => (refPcs 32 (Tide.cutX 10 rest) (by omega) W : Calls Tryd.prog 29 #[.string (Tide.cutX 10 rest), .int .u8 32] W (PcsPost 32 (Tide.cutX 10 rest) W)))
        have HCut := Lib.hid hcut
        have HPos := Lib.hid hpos
        obtain ⟨X, hX⟩ : ∃ X, Tide.cutX 10 rest = X := ⟨_, rfl⟩
        have HX := Lib.hid (show Tide.piecesB 32 X = wordsOf rest by rw [← hX]; rfl)
        rw [hX] at c0 HPx
        clear hX
        have c1 : (i : Int) < (E : Int) := by omega
        have c2 : decide ((E : Int) ≤ (i : Int)) = false := decide_eq_false (by omega)
        have HBad := Lib.hid (fun (W : World) (h : lineN i p (wordsOf rest) = none) (hb : Below w.heap.size w W) => post_zero (w := w) (w' := W) (HNo.out (i + 1) (HK.out.reads.bad hpos hcut h)) hb)
        have HNext := Lib.hid (fun (W : World) (p' : Pln) (v' : Value) (h : lineN i p (wordsOf rest) = some p') (hr : RlS w1 W gp v' p') => (⟨hr, HK.out.reads.next hpos hcut h, HK.out.left.next hcut, lineN_fits HK.out.fits h, by have := line_many h; have := HK.out.many; omega, by have := Tide.cutY_less hcut; omega⟩ : RlnS w1 W s R gp (i + 1) v' p' (Tide.cutY 10 rest)))
        have HWf := Lib.hid (words_few' rest (by omega))
        have hk2 := HM.out.1
        have hpm := HK.out.many
        clear hcut hpos HLine HMore hxs HRd HNo HYes HNm
        by_cases h4 : i < 4
        · have h4' : (i : Int) < 4 := by omega
          as_aux_lemma =>
          go_wp2_with fail
          refine (HPx.out wr).mono ?_
          rintro e w3 ⟨gw, cw, rfl, hrow3, hb3, hcw, hcw2⟩
          rw [HX.out] at hcw ⊢
          rw [HX.out] at hrow3
          have HW3 := Lib.hid (show WdsAt w3 gw 0 (wordsOf rest) from ⟨fun j z hz => by rw [Nat.zero_add]; exact hrow3.cell (by rw [List.getElem?_map, hz]; rfl), hrow3.inside⟩)
          have HR3 := Lib.hid (HK.out.st.next hb3)
          have hgw : gw ≠ gp := hrow3.apartAt HR3.out.plan (by decide)
          have HB3 := Lib.hid (HBr.out.trans (hb3.mono HBr.out.size))
          have HPL := Lib.hid (planLineAny w1 w3 gp gw cw i v p (wordsOf rest) HR3.out (by omega) HW3.out hgw HWf.out.2.2 HWf.out.1 HWf.out.2.1 hcw (by omega))
          clear hrow3 hb3 HPx HW3 HR3 HBr HRw c0 HBw HZr
          go_wp2_with fail
          refine HPL.out.mono ?_
          rintro e w5 ⟨b, rfl, hy, hno⟩
          cases b
          · obtain ⟨h8, hb8⟩ := hno rfl
            have HL8 := Lib.hid h8
            have HZ8 := Lib.hid (HZ1.out.below hb8 HZ1.out.inside)
            have HB8 := Lib.hid (HB1.out.trans (hb8.mono HB1.out.size))
            clear h8 hb8 hy hno HPL HNext HK HM
            go_upto_region 10 with fail
            go_wp2_with (first | refine build_law rfl 42 _ rfl [] rfl _ zero_built ?_ | refine wpList_store_row rfl 42 (.tmp 2) (.tmp 53) rfl w.heap.size (plnC zeroP (.slice none 0 0)) rfl rfl 42 (plnC zeroP (.slice none 0 0)) HZ8.out (by kernel_rfl) rfl (by kernel_rfl) ?_)
            have hA := row_set2 HZ8.out (plnC zeroP (.slice none 0 0))
            refine bodyPost_ret (v := .tuple #[.agg (plnC zeroP (.slice none 0 0)), .int .i64 ((i : Int) + 1), .int .i64 3]) (by exact results_cell3 Tryd.results22 _ _ w.heap.size 42 _ (0, 0) _ rfl hA Tryd.underlying42 rfl (by kernel_rfl) _ _ rfl rfl) rfl ?_
            exact HBad.out _ HL8.out (below_row HB8.out (Nat.le_refl _) _)
          · obtain ⟨p', v', h8, hr8⟩ := hy rfl
            have HN := Lib.hid (HNext.out w5 p' v' h8 hr8)
            have HMk := Lib.hid hk2
            have HCi := Lib.hid c1
            clear hy hno h8 hr8 HPL HBad HNext HK
            go_wp2_with fail
            go_roundg (E + 1 - i)
            case measure => have := HCi.out; have := HM.out; omega
            case rel => exact ⟨i + 1, v', p', Tide.cutY 10 rest, by go_num, HN, Lib.hid ⟨by have := HCi.out; omega, by have := HCi.out; omega⟩⟩
        · have h4' : (4 : Int) ≤ (i : Int) := by omega
          as_aux_lemma =>
          go_wp2_with fail
          refine (HPx.out wr).mono ?_
          rintro e w3 ⟨gw, cw, rfl, hrow3, hb3, hcw, hcw2⟩
          rw [HX.out] at hcw ⊢
          rw [HX.out] at hrow3
          have HW3 := Lib.hid (show WdsAt w3 gw 0 (wordsOf rest) from ⟨fun j z hz => by rw [Nat.zero_add]; exact hrow3.cell (by rw [List.getElem?_map, hz]; rfl), hrow3.inside⟩)
          have HR3 := Lib.hid (HK.out.st.next hb3)
          have hgw : gw ≠ gp := hrow3.apartAt HR3.out.plan (by decide)
          have HB3 := Lib.hid (HBr.out.trans (hb3.mono HBr.out.size))
          have HPL := Lib.hid (planLineAny w1 w3 gp gw cw i v p (wordsOf rest) HR3.out (by omega) HW3.out hgw HWf.out.2.2 HWf.out.1 HWf.out.2.1 hcw (by omega))
          clear hrow3 hb3 HPx HW3 HR3 HBr HRw c0 HBw HZr
          go_wp2_with fail
          refine HPL.out.mono ?_
          rintro e w5 ⟨b, rfl, hy, hno⟩
          cases b
          · obtain ⟨h8, hb8⟩ := hno rfl
            have HL8 := Lib.hid h8
            have HZ8 := Lib.hid (HZ1.out.below hb8 HZ1.out.inside)
            have HB8 := Lib.hid (HB1.out.trans (hb8.mono HB1.out.size))
            clear h8 hb8 hy hno HPL HNext HK HM
            go_upto_region 10 with fail
            go_wp2_with (first | refine build_law rfl 42 _ rfl [] rfl _ zero_built ?_ | refine wpList_store_row rfl 42 (.tmp 2) (.tmp 53) rfl w.heap.size (plnC zeroP (.slice none 0 0)) rfl rfl 42 (plnC zeroP (.slice none 0 0)) HZ8.out (by kernel_rfl) rfl (by kernel_rfl) ?_)
            have hA := row_set2 HZ8.out (plnC zeroP (.slice none 0 0))
            refine bodyPost_ret (v := .tuple #[.agg (plnC zeroP (.slice none 0 0)), .int .i64 ((i : Int) + 1), .int .i64 3]) (by exact results_cell3 Tryd.results22 _ _ w.heap.size 42 _ (0, 0) _ rfl hA Tryd.underlying42 rfl (by kernel_rfl) _ _ rfl rfl) rfl ?_
            exact HBad.out _ HL8.out (below_row HB8.out (Nat.le_refl _) _)
          · obtain ⟨p', v', h8, hr8⟩ := hy rfl
            have HN := Lib.hid (HNext.out w5 p' v' h8 hr8)
            have HMk := Lib.hid hk2
            have HCi := Lib.hid c1
            clear hy hno h8 hr8 HPL HBad HNext HK
            go_wp2_with fail
            go_roundg (E + 1 - i)
            case measure => have := HCi.out; have := HM.out; omega
            case rel => exact ⟨i + 1, v', p', Tide.cutY 10 rest, by go_num, HN, Lib.hid ⟨by have := HCi.out; omega, by have := HCi.out; omega⟩⟩
      · have hiE : i = E := by rcases HMore with h | h; have := h.2; omega; omega
        have hcut : Tide.cutZ 10 rest = false := by
          rcases HMore with h | h
          · have := h.2; omega
          · exact h.1
        have hxr : Tide.cutX 10 rest = rest := Tide.cutX_none hcut
        rw [hxr] at HLine
        have c0 : wr.cell? ⟨gl, i, none⟩ = some (.string rest) := HRw.out.cell (by rw [List.getElem?_map, HLine]; rfl)
        clear HMore HLine hxr hc hie
        subst hiE
        by_cases hend : i < 4 ∨ 0 < rest.size
        · have HF := Lib.hid (fun (W : World) (hb : Below w.heap.size w W) => post_zero (w := w) (w' := W) (HNo.out (i + 1) (HK.out.reads.cut hend hcut)) hb)
          have c2 : decide ((i : Int) ≤ (i : Int)) = true := by simp
          clear HRd HNo HYes HNm hcut HK HM
          by_cases h4 : i < 4
          · clear hend c0
            go_upto_region 10 with fail
            go_wp2_with (first | refine build_law rfl 42 _ rfl [] rfl _ zero_built ?_ | refine wpList_store_row rfl 42 (.tmp 2) (.tmp 53) rfl w.heap.size (plnC zeroP (.slice none 0 0)) rfl rfl 42 (plnC zeroP (.slice none 0 0)) HZr.out (by kernel_rfl) rfl (by kernel_rfl) ?_)
            have hA := row_set2 HZr.out (plnC zeroP (.slice none 0 0))
            refine bodyPost_ret (v := .tuple #[.agg (plnC zeroP (.slice none 0 0)), .int .i64 ((i : Int) + 1), .int .i64 3]) (by exact results_cell3 Tryd.results22 _ _ w.heap.size 42 _ (0, 0) _ rfl hA Tryd.underlying42 rfl (by kernel_rfl) _ _ rfl rfl) rfl ?_
            exact HF.out _ (below_row HBw.out (Nat.le_refl _) _)
          · have e0 : (rest.toList == []) = false := by
              have h9 := same_words rest ⟨#[]⟩
              rw [decide_eq_false (fun e => by rcases hend with h | h; omega; rw [e] at h; exact absurd h (by decide)), show (⟨#[]⟩ : ByteArray).toList = [] from (ByteArray.toList_eq _).trans rfl] at h9
              exact h9
            have h4' : (4 : Int) ≤ (i : Int) := by omega
            clear hend
            go_upto_region 10 with fail
            go_wp2_with (first | refine build_law rfl 42 _ rfl [] rfl _ zero_built ?_ | refine wpList_store_row rfl 42 (.tmp 2) (.tmp 53) rfl w.heap.size (plnC zeroP (.slice none 0 0)) rfl rfl 42 (plnC zeroP (.slice none 0 0)) HZr.out (by kernel_rfl) rfl (by kernel_rfl) ?_)
            have hA := row_set2 HZr.out (plnC zeroP (.slice none 0 0))
            refine bodyPost_ret (v := .tuple #[.agg (plnC zeroP (.slice none 0 0)), .int .i64 ((i : Int) + 1), .int .i64 3]) (by exact results_cell3 Tryd.results22 _ _ w.heap.size 42 _ (0, 0) _ rfl hA Tryd.underlying42 rfl (by kernel_rfl) _ _ rfl rfl) rfl ?_
            exact HF.out _ (below_row HBw.out (Nat.le_refl _) _)
        · have h4 : 4 ≤ i := by omega
          have h0 : rest.size = 0 := by omega
          have e0 : (rest.toList == []) = true := by
            have : rest = ⟨#[]⟩ := Tide.ba_ext (List.length_eq_zero_iff.1 (by rw [← Tide.ba_size]; exact h0))
            rw [this, ByteArray.toList_eq]; rfl
          have HR := Lib.hid (HYes.out 0 p (HK.out.reads.whole h4 h0))
          obtain ⟨A, capA, rfl, _, _, _⟩ := HK.out.st.own.slice
          have HLi := Lib.hid (HK.out.st.own.list Trg.enc_length)
          have HPl := Lib.hid HK.out.st.plan
          have HOw := Lib.hid HK.out.st.own
          have HC := Lib.hid (refPlanAt p A capA wr HLi.out HK.out.fits (by have := HNm.out p 0 (HK.out.reads.whole h4 h0); omega) (by have := HK.out.many; omega))
          have h4' : (4 : Int) ≤ (i : Int) := by omega
          have hwg : w.heap.size < w1.heap.size := by have := HZ1.out.inside; omega
          clear h0 hend HK hcut h4 HNo HYes HNm HRd
          as_aux_lemma =>
          go_upto_region 11 with fail
          go_wp2_with (refine wpList_load_row rfl 42 (.tmp 7) rfl gp rfl 42 _ (0, 0) _ HPl.out Tryd.underlying42 rfl (by kernel_rfl) ?_)
          refine HC.out.mono ?_
          rintro e W5 ⟨rfl, hb5⟩
          have HZ5 := Lib.hid (HZr.out.below hb5 HZr.out.inside)
          have HB5 := Lib.hid (HBw.out.trans (hb5.mono HBw.out.size))
          have HPl5 := Lib.hid (HPl.out.below hb5 HPl.out.inside)
          have HOw5 := Lib.hid (HOw.out.below hb5 (Nat.le_refl _))
          clear hb5 HZr HBw HPl HLi HC c0 HOw
          by_cases hE : planE p = 0
          · have HF := Lib.hid (show readR s = (p, 0, 0) by rw [HR.out, if_pos hE])
            rw [hE]
            clear hE
            go_wp2_with (first | refine wpList_load_row rfl 42 (.tmp 7) rfl gp rfl 42 _ (0, 0) _ HPl5.out Tryd.underlying42 rfl (by kernel_rfl) ?_ | refine wpList_store_row rfl 42 (.tmp 2) (.tmp 62) rfl w.heap.size (plnC p (.slice A p.trigs.length capA)) rfl rfl 42 (plnC zeroP (.slice none 0 0)) HZ5.out (by kernel_rfl) rfl (by kernel_rfl) ?_)
            have hA := row_set2 HZ5.out (plnC p (.slice A p.trigs.length capA))
            refine bodyPost_ret (v := .tuple #[.agg (plnC p (.slice A p.trigs.length capA)), .int .i64 0, .int .i64 0]) (by exact results_cell3 Tryd.results22 _ _ w.heap.size 42 _ (0, 0) _ rfl hA Tryd.underlying42 rfl (by kernel_rfl) _ _ rfl rfl) rfl ?_
            refine ⟨.slice A p.trigs.length capA, by rw [HF.out]; rfl, ?_, below_row HB5.out (Nat.le_refl _) _⟩
            rw [HF.out]
            exact (HOw5.out.chg (chg_row W5 w.heap.size (plnC p (.slice A p.trigs.length capA))) (fun b hb e => by have e2 : b = w.heap.size := e; have := hb.1; omega)).list Trg.enc_length
          · have HF := Lib.hid (show readR s = (zeroP, 0, planE p) by rw [HR.out, if_neg hE])
            have hE2 : (planE p != 0) = true := by simpa using hE
            clear hE
            generalize planE p = F at HF hE2 ⊢
            go_wp2_with (first | refine build_law rfl 42 _ rfl [] rfl _ zero_built ?_ | refine wpList_store_row rfl 42 (.tmp 2) (.tmp 60) rfl w.heap.size (plnC zeroP (.slice none 0 0)) rfl rfl 42 (plnC zeroP (.slice none 0 0)) HZ5.out (by kernel_rfl) rfl (by kernel_rfl) ?_)
            have hA := row_set2 HZ5.out (plnC zeroP (.slice none 0 0))
            refine bodyPost_ret (v := .tuple #[.agg (plnC zeroP (.slice none 0 0)), .int .i64 0, .int .i64 F]) (by exact results_cell3 Tryd.results22 _ _ w.heap.size 42 _ (0, 0) _ rfl hA Tryd.underlying42 rfl (by kernel_rfl) _ _ rfl rfl) rfl ?_
            exact post_zero HF.out (below_row HB5.out (Nat.le_refl _) _)
end Go.Proofs.YthelnkoohbnjpaaDoor
