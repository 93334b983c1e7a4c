/- The reference's planLine at the lines of numbers. -/
import Derived.Test.YthelnkoohbnjpaaDoorPrlM
set_option linter.unusedVariables false
set_option linter.unusedSimpArgs false
namespace Go.Proofs.YthelnkoohbnjpaaDoor
open Go.RowKit
set_option linter.unusedVariables false
theorem text_info2 : (Tryd.prog.info? 9).map (fun i => (i.zero, i.size)) = some (some (.string ⟨#[]⟩), 1) := by kernel_rfl
theorem words_fill : Instr.fill (fun i => some (i * 1, 1)) ((Array.range (4 * 1)).map ((Value.string ⟨#[]⟩).cells[· % (Value.string ⟨#[]⟩).cells.size]!)) [(0, .string ⟨#[]⟩), (1, .string ⟨#[114, 101, 115, 116]⟩), (2, .string ⟨#[117, 112]⟩), (3, .string ⟨#[100, 111, 119, 110]⟩)] = some #[.string ⟨#[]⟩, .string ⟨#[114, 101, 115, 116]⟩, .string ⟨#[117, 112]⟩, .string ⟨#[100, 111, 119, 110]⟩] := by kernel_rfl
theorem rowOk_word {word : ByteArray} {ws : List ByteArray} (h : Tide.pieceAt ws 0 ≠ word) : rowOk word ws = false := by unfold rowOk; rw [decide_eq_false h]; rfl
theorem rowOk_nums {word : ByteArray} {ws : List ByteArray} (h : wordsOk (ws.drop 1) 4 = false) : rowOk word ws = false := by unfold rowOk; rw [h, Bool.and_false]
theorem rowOk_yes {word : ByteArray} {ws : List ByteArray} (h : Tide.pieceAt ws 0 = word) (h2 : wordsOk (ws.drop 1) 4 = true) : rowOk word ws = true := by unfold rowOk; rw [decide_eq_true h, h2]; rfl
theorem words_many {ws : List ByteArray} {n : Nat} (h : wordsOk ws n = true) : ws.length = n := by
  unfold wordsOk at h
  rw [Bool.and_eq_true] at h
  exact of_decide_eq_true h.1
theorem pace_built (a b c d : Int) : Tryd.prog.built 39 [(0, .int .i64 a), (1, .int .i64 b), (2, .int .i64 c), (3, .int .i64 d)] = some #[.int .i64 a, .int .i64 b, .int .i64 c, .int .i64 d] := by kernel_rfl
theorem rl_cells {i : Nat} (h0 : 1 ≤ i) (h1 : i ≤ 3) {p : Pln} {ws : List ByteArray} {v : Value} (h : rowOk (rowAt i).1 ws = true) : ∃ p', lineN i p ws = some p' ∧ p'.trigs = p.trigs ∧ setK (plnC p v) (rowAt i).2 (ws.drop 1) 4 = plnC p' v := row_good h0 h1 h
theorem Chg_self (g : Nat) (W : World) : Tide.Chg (fun b => b = g) W W := Tide.Chg.refl _ _
/-- behind the numbers of a line -/
structure WhsMid (W wx : World) (u : List ByteArray) (n : Nat) (v : Value) : Prop where
  yes : wordsOk u n = true → Tide.OwnRow (fun b => W.heap.size ≤ b) wx 3 1 v n (numsV u)
  no : wordsOk u n = false → v = .slice none 0 0
  below : Below W.heap.size W wx
theorem row_line {i : Nat} (h0 : 1 ≤ i) (h1 : i ≤ 3) {p : Pln} {ws : List ByteArray} (h : rowOk (rowAt i).1 ws = false) : lineN i p ws = none := row_ill h0 h1 h
set_option maxRecDepth 100000 in
set_option maxHeartbeats 12800000 in
theorem planLine1 (w0 W : World) (gp bw cap : Nat) (v : Value) (pl : Pln) (ws : List ByteArray) (h : RlS w0 W gp v pl) (hw : WdsAt W bw 0 ws) (hbg : bw ≠ gp) (hs : ∀ x ∈ ws, x.size ≤ 1000000) (h0 : 1 ≤ ws.length) (hl : ws.length ≤ 1000001) (hc : ws.length ≤ cap) :
    Calls Tryd.prog 50 #[.pointer (some ⟨gp, 0, none⟩), .int .i64 1, .slice (some ⟨bw, 0, none⟩) ws.length cap] W (RlPost w0 gp 1 pl ws) := by
  obtain ⟨o, hoff⟩ : ∃ o, o = if cap = 1 then 0 else 1 := ⟨_, rfl⟩
  have HWh := Lib.hid (show Calls Tryd.prog 66 #[.slice (some ⟨bw, o, none⟩) (ws.length - 1) (cap - 1), .int .i64 4, .int .i64 7] W (WhsPost W (ws.drop 1) 4) from by
    have hd : WdsAt W bw o (ws.drop 1) := by
      by_cases e : cap = 1
      · rw [List.drop_eq_nil_of_le (by omega)]; rw [if_pos e] at hoff; subst hoff; exact hw.take 0
      · rw [if_neg e] at hoff; subst hoff; have := hw.drop 1; rwa [Nat.zero_add] at this
    have q := refWholes (ws.drop 1) bw o (cap - 1) 4 W hd (fun z hz => hs z (List.mem_of_mem_drop hz)) (by rw [List.length_drop]; omega) (by decide)
    rw [List.length_drop] at q
    exact q)
  have HH := Lib.hid h
  obtain ⟨x, hx⟩ := Tide.get_some ws (show 0 < ws.length by omega)
  have HP := Lib.hid (Tide.pieceAt_get hx)
  have c0 : W.cell? ⟨bw, 0, none⟩ = some (.string x) := hw.cell 0 x hx
  have hbl := hw.lt
  have i1 : (ws.length : Int) ≤ 1000001 := by omega
  have i2 : (0 : Int) < (ws.length : Int) := by omega
  have i3 : 0 < ws.length := by omega
  have i4 : (ws.length : Int) ≤ (cap : Int) := by omega
  obtain ⟨n, hn⟩ : ∃ n, ws.length = n := ⟨_, rfl⟩
  have HN := Lib.hid hn
  obtain ⟨u, hu⟩ : ∃ u, ws.drop 1 = u := ⟨_, rfl⟩
  have HU := Lib.hid hu
  obtain ⟨ie, hie, hz0, hz1⟩ := info_two text_info2
  have hsm : ¬ 4 * ie.size > 2 ^ 24 := by rw [hz1]; decide
  have hpo : ¬ 4 * ie.size = 0 := by rw [hz1]; decide
  have HFill := Lib.hid (show Instr.fill (fun i => some (i * ie.size, ie.size)) ((Array.range (4 * ie.size)).map ((Value.string ⟨#[]⟩).cells[· % (Value.string ⟨#[]⟩).cells.size]!)) [(0, .string ⟨#[]⟩), (1, .string ⟨#[114, 101, 115, 116]⟩), (2, .string ⟨#[117, 112]⟩), (3, .string ⟨#[100, 111, 119, 110]⟩)] = some #[.string ⟨#[]⟩, .string ⟨#[114, 101, 115, 116]⟩, .string ⟨#[117, 112]⟩, .string ⟨#[100, 111, 119, 110]⟩] from by rw [hz1]; exact words_fill)
  rw [hn, hu] at HWh
  rw [hn] at i1 i2 i3 i4 hc ⊢
  clear h hx hw hs h0 hl hn hu hz1
  go_enter Tryd.func50, Tryd.ntmps50
  go_upto_region 14 with fail
  go_cut [9] (fun vn wx => Hid (WhsMid W wx u 4 vn))
  case first =>
    by_cases hcap : cap = 1
    · rw [if_pos hcap] at hoff
      subst hoff hcap
      have hn1 : n = 1 := by omega
      subst hn1
      clear i1 i2 i3 i4 hc
      go_wp2_with fail
      refine HWh.out.mono ?_
      rintro e w1 ⟨vn, rfl, hy, hno, hb⟩
      have HM := Lib.hid (WhsMid.mk hy hno hb)
      clear hy hno hb HWh
      go_wp2_with fail
      go_meet
      exact HM
    · rw [if_neg hcap] at hoff
      subst hoff
      have hc1 : 1 < cap := by omega
      have hc2 : (1 : Int) ≤ (cap : Int) := by omega
      have hc3 : (1 : Int) ≤ (n : Int) := by omega
      go_wp2_with fail
      refine HWh.out.mono ?_
      rintro e w1 ⟨vn, rfl, hy, hno, hb⟩
      have HM := Lib.hid (WhsMid.mk hy hno hb)
      clear hy hno hb HWh
      go_wp2_with fail
      go_meet
      exact HM
  have HM := hcut
  clear hcut HWh hoff
  have HR := Lib.hid (HH.out.next HM.out.below)
  have l1 : bw < wc.heap.size := Nat.lt_of_lt_of_le hbl HM.out.below.size
  have d0 : wc.cell? ⟨bw, 0, none⟩ = some (.string x) := (HM.out.below.cell (p := ⟨bw, 0, none⟩) hbl).trans c0
  clear c0 hbl
  go_upto_region 15 with fail
  by_cases hxw : x = wdRest
  · have e1 : (x.toList == [114, 101, 115, 116]) = true := by subst hxw; rw [ByteArray.toList_eq]; rfl
    have HX := Lib.hid (HP.out.trans hxw)
    clear hxw
    cases hok : wordsOk u 4
    · have hvn := HM.out.no hok
      subst hvn
      have hq := fun w => Lib.run_eql_slice_nil (P := Tryd.prog) w 69 3 none 0 0 0 0 Tryd.underlying69
      have HL := Lib.hid (row_line (i := 1) (p := pl) (ws := ws) (by decide) (by decide) (rowOk_nums (by rw [HU.out]; exact hok)))
      clear hok
      refine wp_region_held_drew (S := fun Wx => Tide.Chg (fun b => b = gp) wc Wx) (by kernel_rfl) (Tide.Chg.refl _ _).drew (fun hS => ?_)
      clear hS
      change wpAnyH _ _ _ _ _ 12 #[false, false, false, false, false, false, false, false, false, false, false, false] _ (World.drew _)
      have hS : Tide.Chg (fun b => b = gp) wc wc.drew := (Tide.Chg.refl _ _).drew
      refine wpAnyH_take (i := 0) (v := .slice (some ⟨bw, 0, none⟩) n cap) rfl (by kernel_rfl) (by kernel_rfl) (by kernel_rfl) (fun _ _ _ h => h) (.inl ⟨by rfl, fun W hW => ?_⟩) hS ?_
      · clear hW; go_simp
      simp only [Act.put, List.getElem_toArray, List.getElem_cons_succ, List.getElem_cons_zero, List.setIfInBounds_toArray, List.set_cons_zero, List.set_cons_succ]
      refine wpAnyH_take (i := 1) (v := .pointer (some ⟨bw, 0, none⟩)) rfl (by kernel_rfl) (by kernel_rfl) (by kernel_rfl) (fun _ _ _ h => h) (.inl ⟨by rfl, fun W hW => ?_⟩) hS ?_
      · clear hW; go_simp
      simp only [Act.put, List.getElem_toArray, List.getElem_cons_succ, List.getElem_cons_zero, List.setIfInBounds_toArray, List.set_cons_zero, List.set_cons_succ]
      refine wpAnyH_take (i := 2) (v := .string x) rfl (by kernel_rfl) (by kernel_rfl) (by kernel_rfl) (fun _ _ _ h => h) (.inl ⟨by rfl, fun W hW => ?_⟩) hS ?_
      · have d := (chg_cell hW l1 hbg 0).trans d0; clear hW; go_simp
      simp only [Act.put, List.getElem_toArray, List.getElem_cons_succ, List.getElem_cons_zero, List.setIfInBounds_toArray, List.set_cons_zero, List.set_cons_succ]
      refine wpAnyH_take (i := 4) (v := .int .i64 1) rfl (by kernel_rfl) (by kernel_rfl) (by kernel_rfl) (fun _ _ _ h => h) (.inl ⟨by rfl, fun W hW => ?_⟩) hS ?_
      · clear hW; go_simp
      simp only [Act.put, List.getElem_toArray, List.getElem_cons_succ, List.getElem_cons_zero, List.setIfInBounds_toArray, List.set_cons_zero, List.set_cons_succ]
      refine wpAnyH_ready (rs := [3]) (by kernel_rfl) (by simp) (AllReadyH.cons rfl (fun K hK => ?_) AllReadyH.nil)
      refine rl_bslice rfl 53 9 4 _ rfl [(0, .string ⟨#[]⟩), (1, .string ⟨#[114, 101, 115, 116]⟩), (2, .string ⟨#[117, 112]⟩), (3, .string ⟨#[100, 111, 119, 110]⟩)] rfl #[.string ⟨#[]⟩, .string ⟨#[114, 101, 115, 116]⟩, .string ⟨#[117, 112]⟩, .string ⟨#[100, 111, 119, 110]⟩] ie (.string ⟨#[]⟩) Tryd.underlying53 hie hz0 hsm hpo HFill.out (hK.out _ _ (hS.alloc _) (fun hS' => ?_))
      clear hS hK K
      have hS := hS'
      clear hS'
      refine wpAnyH_take (i := 5) (v := .pointer (some ⟨wc.heap.size, 1, none⟩)) rfl (by kernel_rfl) (by kernel_rfl) (by kernel_rfl) (fun _ _ _ h => h) (.inl ⟨by rfl, fun W hW => ?_⟩) hS ?_
      · clear hW; go_simp
      simp only [Act.put, List.getElem_toArray, List.getElem_cons_succ, List.getElem_cons_zero, List.setIfInBounds_toArray, List.set_cons_zero, List.set_cons_succ]
      refine wpAnyH_ready (rs := [6]) (by kernel_rfl) (by simp) (AllReadyH.cons rfl (fun K hK => ?_) AllReadyH.nil)
      have HS := Lib.hid hS
      clear hS
      go_simp
      refine hK.out _ _ HS.out (fun hS => ?_)
      clear HS hK K
      refine wpAnyH_take (i := 7) (v := .bool false) rfl (by kernel_rfl) (by kernel_rfl) (by kernel_rfl) (fun _ _ _ h => h) (.inl ⟨by rfl, fun W hW => ?_⟩) hS ?_
      · clear hW; go_simp
      simp only [Act.put, List.getElem_toArray, List.getElem_cons_succ, List.getElem_cons_zero, List.setIfInBounds_toArray, List.set_cons_zero, List.set_cons_succ]
      refine wpAnyH_take (i := 8) (v := .bool false) rfl (by kernel_rfl) (by kernel_rfl) (by kernel_rfl) (fun _ _ _ h => h) (.inl ⟨by rfl, fun W hW => ?_⟩) hS ?_
      · clear hW; go_simp
      simp only [Act.put, List.getElem_toArray, List.getElem_cons_succ, List.getElem_cons_zero, List.setIfInBounds_toArray, List.set_cons_zero, List.set_cons_succ]
      refine wpAnyH_take (i := 9) (v := .slice none 0 0) rfl (by kernel_rfl) (by kernel_rfl) (by kernel_rfl) (fun _ _ _ h => h) (.inl ⟨by rfl, fun W hW => ?_⟩) hS ?_
      · clear hW; go_simp
      simp only [Act.put, List.getElem_toArray, List.getElem_cons_succ, List.getElem_cons_zero, List.setIfInBounds_toArray, List.set_cons_zero, List.set_cons_succ]
      refine wpAnyH_take (i := 10) (v := .bool true) rfl (by kernel_rfl) (by kernel_rfl) (by kernel_rfl) (fun _ _ _ h => h) (.inl ⟨by rfl, fun W hW => ?_⟩) hS ?_
      · clear hW; go_simp
      simp only [Act.put, List.getElem_toArray, List.getElem_cons_succ, List.getElem_cons_zero, List.setIfInBounds_toArray, List.set_cons_zero, List.set_cons_succ]
      refine wpAnyH_take (i := 11) (v := .bool true) rfl (by kernel_rfl) (by kernel_rfl) (by kernel_rfl) (fun _ _ _ h => h) (.inl ⟨by rfl, fun W hW => ?_⟩) hS ?_
      · clear hW; go_simp
      simp only [Act.put, List.getElem_toArray, List.getElem_cons_succ, List.getElem_cons_zero, List.setIfInBounds_toArray, List.set_cons_zero, List.set_cons_succ]
      have HS := Lib.hid hS
      clear hS
      refine wpAnyH_done (by kernel_rfl) ?_ _
      go_wp2_with fail
      go_ret
      exact rl_no HL.out (HR.out.below.trans (HS.out.below HR.out.below.size (fun k hk e => by have e2 : k = gp := e; have := HR.out.og; omega)))
    · obtain ⟨bn, cn, hvn, hbn1, hbn2, hcn⟩ := nums_form (w := W) (w' := wc) (ws := u) (n := 4) (by decide) (words_many hok) (HM.out.yes hok)
      subst hvn
      have hq := fun w => Lib.run_eql_slice_nil (P := Tryd.prog) w 69 3 (some ⟨bn, 0, none⟩) 4 cn 0 0 Tryd.underlying69
      obtain ⟨p', hp', ht', hcs⟩ := rl_cells (i := 1) (by decide) (by decide) (p := pl) (ws := ws) (v := v) (rowOk_yes HX.out (by rw [HU.out]; exact hok))
      have HL := Lib.hid hp'
      have HT := Lib.hid ht'
      have hgl := HH.out.plan.inside
      have l3 : bn ≠ gp := by omega
      obtain ⟨v1, hv1⟩ : ∃ z, wV (Tide.pieceAt u 0) = z := ⟨_, rfl⟩
      obtain ⟨v2, hv2⟩ : ∃ z, wV (Tide.pieceAt u 1) = z := ⟨_, rfl⟩
      obtain ⟨v3, hv3⟩ : ∃ z, wV (Tide.pieceAt u 2) = z := ⟨_, rfl⟩
      obtain ⟨v4, hv4⟩ : ∃ z, wV (Tide.pieceAt u 3) = z := ⟨_, rfl⟩
      have n0 : wc.cell? ⟨bn, 0, none⟩ = some (.int .i64 v1) := by rw [← hv1]; exact hcn 0 (by decide)
      have n1 : wc.cell? ⟨bn, 1, none⟩ = some (.int .i64 v2) := by rw [← hv2]; exact hcn 1 (by decide)
      have n2 : wc.cell? ⟨bn, 2, none⟩ = some (.int .i64 v3) := by rw [← hv3]; exact hcn 2 (by decide)
      have n3 : wc.cell? ⟨bn, 3, none⟩ = some (.int .i64 v4) := by rw [← hv4]; exact hcn 3 (by decide)
      have HE := Lib.hid (show ((((plnC pl v).setIfInBounds 5 (.int .i64 v1)).setIfInBounds 6 (.int .i64 v2)).setIfInBounds 7 (.int .i64 v3)).setIfInBounds 8 (.int .i64 v4) = plnC p' v from by rw [← hv1, ← hv2, ← hv3, ← hv4, ← hcs, HU.out]; rfl)
      clear hp' ht' hcs hok hcn hv1 hv2 hv3 hv4
      refine wp_region_held_drew (S := fun Wx => Tide.Chg (fun b => b = gp) wc Wx) (by kernel_rfl) (Tide.Chg.refl _ _).drew (fun hS => ?_)
      clear hS
      change wpAnyH _ _ _ _ _ 12 #[false, false, false, false, false, false, false, false, false, false, false, false] _ (World.drew _)
      have hS : Tide.Chg (fun b => b = gp) wc wc.drew := (Tide.Chg.refl _ _).drew
      refine wpAnyH_take (i := 0) (v := .slice (some ⟨bw, 0, none⟩) n cap) rfl (by kernel_rfl) (by kernel_rfl) (by kernel_rfl) (fun _ _ _ h => h) (.inl ⟨by rfl, fun W hW => ?_⟩) hS ?_
      · clear hW; go_simp
      simp only [Act.put, List.getElem_toArray, List.getElem_cons_succ, List.getElem_cons_zero, List.setIfInBounds_toArray, List.set_cons_zero, List.set_cons_succ]
      refine wpAnyH_take (i := 1) (v := .pointer (some ⟨bw, 0, none⟩)) rfl (by kernel_rfl) (by kernel_rfl) (by kernel_rfl) (fun _ _ _ h => h) (.inl ⟨by rfl, fun W hW => ?_⟩) hS ?_
      · clear hW; go_simp
      simp only [Act.put, List.getElem_toArray, List.getElem_cons_succ, List.getElem_cons_zero, List.setIfInBounds_toArray, List.set_cons_zero, List.set_cons_succ]
      refine wpAnyH_take (i := 2) (v := .string x) rfl (by kernel_rfl) (by kernel_rfl) (by kernel_rfl) (fun _ _ _ h => h) (.inl ⟨by rfl, fun W hW => ?_⟩) hS ?_
      · have d := (chg_cell hW l1 hbg 0).trans d0; clear hW; go_simp
      simp only [Act.put, List.getElem_toArray, List.getElem_cons_succ, List.getElem_cons_zero, List.setIfInBounds_toArray, List.set_cons_zero, List.set_cons_succ]
      refine wpAnyH_take (i := 4) (v := .int .i64 1) rfl (by kernel_rfl) (by kernel_rfl) (by kernel_rfl) (fun _ _ _ h => h) (.inl ⟨by rfl, fun W hW => ?_⟩) hS ?_
      · clear hW; go_simp
      simp only [Act.put, List.getElem_toArray, List.getElem_cons_succ, List.getElem_cons_zero, List.setIfInBounds_toArray, List.set_cons_zero, List.set_cons_succ]
      refine wpAnyH_ready (rs := [3]) (by kernel_rfl) (by simp) (AllReadyH.cons rfl (fun K hK => ?_) AllReadyH.nil)
      refine rl_bslice rfl 53 9 4 _ rfl [(0, .string ⟨#[]⟩), (1, .string ⟨#[114, 101, 115, 116]⟩), (2, .string ⟨#[117, 112]⟩), (3, .string ⟨#[100, 111, 119, 110]⟩)] rfl #[.string ⟨#[]⟩, .string ⟨#[114, 101, 115, 116]⟩, .string ⟨#[117, 112]⟩, .string ⟨#[100, 111, 119, 110]⟩] ie (.string ⟨#[]⟩) Tryd.underlying53 hie hz0 hsm hpo HFill.out (hK.out _ _ (hS.alloc _) (fun hS' => ?_))
      clear hS hK K
      have hS := hS'
      clear hS'
      refine wpAnyH_take (i := 5) (v := .pointer (some ⟨wc.heap.size, 1, none⟩)) rfl (by kernel_rfl) (by kernel_rfl) (by kernel_rfl) (fun _ _ _ h => h) (.inl ⟨by rfl, fun W hW => ?_⟩) hS ?_
      · clear hW; go_simp
      simp only [Act.put, List.getElem_toArray, List.getElem_cons_succ, List.getElem_cons_zero, List.setIfInBounds_toArray, List.set_cons_zero, List.set_cons_succ]
      refine wpAnyH_ready (rs := [6]) (by kernel_rfl) (by simp) (AllReadyH.cons rfl (fun K hK => ?_) AllReadyH.nil)
      have HS := Lib.hid hS
      clear hS
      go_simp
      refine hK.out _ _ HS.out (fun hS => ?_)
      clear HS hK K
      refine wpAnyH_take (i := 7) (v := .bool false) rfl (by kernel_rfl) (by kernel_rfl) (by kernel_rfl) (fun _ _ _ h => h) (.inl ⟨by rfl, fun W hW => ?_⟩) hS ?_
      · clear hW; go_simp
      simp only [Act.put, List.getElem_toArray, List.getElem_cons_succ, List.getElem_cons_zero, List.setIfInBounds_toArray, List.set_cons_zero, List.set_cons_succ]
      refine wpAnyH_take (i := 8) (v := .bool false) rfl (by kernel_rfl) (by kernel_rfl) (by kernel_rfl) (fun _ _ _ h => h) (.inl ⟨by rfl, fun W hW => ?_⟩) hS ?_
      · clear hW; go_simp
      simp only [Act.put, List.getElem_toArray, List.getElem_cons_succ, List.getElem_cons_zero, List.setIfInBounds_toArray, List.set_cons_zero, List.set_cons_succ]
      refine wpAnyH_take (i := 9) (v := .slice (some ⟨bn, 0, none⟩) 4 cn) rfl (by kernel_rfl) (by kernel_rfl) (by kernel_rfl) (fun _ _ _ h => h) (.inl ⟨by rfl, fun W hW => ?_⟩) hS ?_
      · clear hW; go_simp
      simp only [Act.put, List.getElem_toArray, List.getElem_cons_succ, List.getElem_cons_zero, List.setIfInBounds_toArray, List.set_cons_zero, List.set_cons_succ]
      refine wpAnyH_take (i := 10) (v := .bool false) rfl (by kernel_rfl) (by kernel_rfl) (by kernel_rfl) (fun _ _ _ h => h) (.inl ⟨by rfl, fun W hW => ?_⟩) hS ?_
      · clear hW; go_simp
      simp only [Act.put, List.getElem_toArray, List.getElem_cons_succ, List.getElem_cons_zero, List.setIfInBounds_toArray, List.set_cons_zero, List.set_cons_succ]
      refine wpAnyH_take (i := 11) (v := .bool false) rfl (by kernel_rfl) (by kernel_rfl) (by kernel_rfl) (fun _ _ _ h => h) (.inl ⟨by rfl, fun W hW => ?_⟩) hS ?_
      · clear hW; go_simp
      simp only [Act.put, List.getElem_toArray, List.getElem_cons_succ, List.getElem_cons_zero, List.setIfInBounds_toArray, List.set_cons_zero, List.set_cons_succ]
      have HS := Lib.hid hS
      clear hS
      refine wpAnyH_done (by kernel_rfl) ?_ _
      have HS := Lib.hid (show Tide.Chg (fun b => b = gp) wc (wc.alloc (.cells #[.string ⟨#[]⟩, .string ⟨#[114, 101, 115, 116]⟩, .string ⟨#[117, 112]⟩, .string ⟨#[100, 111, 119, 110]⟩] 9)).drew from HS.out)
      have HR5 := Lib.hid (HR.out.put HS.out (HR.out.plan.chg (Tide.Chg.of_below ((Below.refl _ _).alloc (Nat.le_refl _) _).drew (Nat.le_refl _) : Tide.Chg (fun _ => False) wc _) (fun h => h)) rfl)
      have m0 := (chg_cell HS.out hbn2 l3 0).trans n0
      have m1 := (chg_cell HS.out hbn2 l3 1).trans n1
      have m2 := (chg_cell HS.out hbn2 l3 2).trans n2
      have m3 := (chg_cell HS.out hbn2 l3 3).trans n3
      have l2 := Nat.lt_of_lt_of_le hbn2 HS.out.size
      clear n0 n1 n2 n3 hbn2 hq hbn1 HR HM HS d0 l1 e1 HFill HH
      go_upto_region 19 with fail
      generalize (wc.alloc (.cells #[.string ⟨#[]⟩, .string ⟨#[114, 101, 115, 116]⟩, .string ⟨#[117, 112]⟩, .string ⟨#[100, 111, 119, 110]⟩] 9)).drew = w5 at HR5 m0 m1 m2 m3 l2 ⊢
      have q0 := HR5.out.plan.here (i := 5) rfl
      have q0' := HR5.out.plan.here (i := 5) rfl
      have s0 := HR5.out.plan.soft 5
      have q1' := HR5.out.plan.here (i := 6) rfl
      have s1 := HR5.out.plan.soft 6
      have q2' := HR5.out.plan.here (i := 7) rfl
      have s2 := HR5.out.plan.soft 7
      have q3' := HR5.out.plan.here (i := 8) rfl
      have s3 := HR5.out.plan.soft 8
      clear q0
      refine wp_region_held_drew (S := fun Wx => Tide.Chg (fun b => b = gp) w5 Wx) (by kernel_rfl) (Tide.Chg.refl _ _).drew (fun hS => ?_)
      clear hS
      change wpAnyH _ _ _ _ _ 28 #[false, false, false, false, false, false, false, false, false, false, false, false, false, false, false, false, false, false, false, false, false, false, false, false, false, false, false, false] _ (World.drew _)
      have hS : Tide.Chg (fun b => b = gp) w5 w5.drew := (Tide.Chg.refl _ _).drew
      refine wpAnyH_take (i := 0) (v := .pointer (some ⟨gp, 0, none⟩)) rfl (by kernel_rfl) (by kernel_rfl) (by kernel_rfl) (fun _ _ _ h => h) (.inl ⟨by rfl, fun W hW => ?_⟩) hS ?_
      · clear hW; go_simp
      simp only [Act.put, List.getElem_toArray, List.getElem_cons_succ, List.getElem_cons_zero, List.setIfInBounds_toArray, List.set_cons_zero, List.set_cons_succ]
      refine wpAnyH_take (i := 1) (v := .pointer (some ⟨gp, 0, none⟩)) rfl (by kernel_rfl) (by kernel_rfl) (by kernel_rfl) (fun _ _ _ h => h) (.inl ⟨by rfl, fun W hW => ?_⟩) hS ?_
      · clear hW; go_simp
      simp only [Act.put, List.getElem_toArray, List.getElem_cons_succ, List.getElem_cons_zero, List.setIfInBounds_toArray, List.set_cons_zero, List.set_cons_succ]
      refine wpAnyH_take (i := 2) (v := .pointer (some ⟨gp, 0, none⟩)) rfl (by kernel_rfl) (by kernel_rfl) (by kernel_rfl) (fun _ _ _ h => h) (.inl ⟨by rfl, fun W hW => ?_⟩) hS ?_
      · clear hW; go_simp
      simp only [Act.put, List.getElem_toArray, List.getElem_cons_succ, List.getElem_cons_zero, List.setIfInBounds_toArray, List.set_cons_zero, List.set_cons_succ]
      refine wpAnyH_take (i := 3) (v := .pointer (some ⟨gp, 0, none⟩)) rfl (by kernel_rfl) (by kernel_rfl) (by kernel_rfl) (fun _ _ _ h => h) (.inl ⟨by rfl, fun W hW => ?_⟩) hS ?_
      · clear hW; go_simp
      simp only [Act.put, List.getElem_toArray, List.getElem_cons_succ, List.getElem_cons_zero, List.setIfInBounds_toArray, List.set_cons_zero, List.set_cons_succ]
      refine wpAnyH_take (i := 4) (v := .slice (some ⟨bn, 0, none⟩) 4 cn) rfl (by kernel_rfl) (by kernel_rfl) (by kernel_rfl) (fun _ _ _ h => h) (.inl ⟨by rfl, fun W hW => ?_⟩) hS ?_
      · clear hW; go_simp
      simp only [Act.put, List.getElem_toArray, List.getElem_cons_succ, List.getElem_cons_zero, List.setIfInBounds_toArray, List.set_cons_zero, List.set_cons_succ]
      refine wpAnyH_take (i := 5) (v := .pointer (some ⟨bn, 0, none⟩)) rfl (by kernel_rfl) (by kernel_rfl) (by kernel_rfl) (fun _ _ _ h => h) (.inl ⟨by rfl, fun W hW => ?_⟩) hS ?_
      · clear hW; go_simp
      simp only [Act.put, List.getElem_toArray, List.getElem_cons_succ, List.getElem_cons_zero, List.setIfInBounds_toArray, List.set_cons_zero, List.set_cons_succ]
      refine wpAnyH_take (i := 6) (v := .int .i64 v1) rfl (by kernel_rfl) (by kernel_rfl) (by kernel_rfl) (fun _ _ _ h => h) (.inl ⟨by rfl, fun W hW => ?_⟩) hS ?_
      · have d := (chg_cell hW l2 l3 0).trans m0; clear hW; go_simp
      simp only [Act.put, List.getElem_toArray, List.getElem_cons_succ, List.getElem_cons_zero, List.setIfInBounds_toArray, List.set_cons_zero, List.set_cons_succ]
      refine wpAnyH_take (i := 7) (v := .slice (some ⟨bn, 0, none⟩) 4 cn) rfl (by kernel_rfl) (by kernel_rfl) (by kernel_rfl) (fun _ _ _ h => h) (.inl ⟨by rfl, fun W hW => ?_⟩) hS ?_
      · clear hW; go_simp
      simp only [Act.put, List.getElem_toArray, List.getElem_cons_succ, List.getElem_cons_zero, List.setIfInBounds_toArray, List.set_cons_zero, List.set_cons_succ]
      refine wpAnyH_take (i := 8) (v := .pointer (some ⟨bn, 1, none⟩)) rfl (by kernel_rfl) (by kernel_rfl) (by kernel_rfl) (fun _ _ _ h => h) (.inl ⟨by rfl, fun W hW => ?_⟩) hS ?_
      · clear hW; go_simp
      simp only [Act.put, List.getElem_toArray, List.getElem_cons_succ, List.getElem_cons_zero, List.setIfInBounds_toArray, List.set_cons_zero, List.set_cons_succ]
      refine wpAnyH_take (i := 9) (v := .int .i64 v2) rfl (by kernel_rfl) (by kernel_rfl) (by kernel_rfl) (fun _ _ _ h => h) (.inl ⟨by rfl, fun W hW => ?_⟩) hS ?_
      · have d := (chg_cell hW l2 l3 1).trans m1; clear hW; go_simp
      simp only [Act.put, List.getElem_toArray, List.getElem_cons_succ, List.getElem_cons_zero, List.setIfInBounds_toArray, List.set_cons_zero, List.set_cons_succ]
      refine wpAnyH_take (i := 10) (v := .slice (some ⟨bn, 0, none⟩) 4 cn) rfl (by kernel_rfl) (by kernel_rfl) (by kernel_rfl) (fun _ _ _ h => h) (.inl ⟨by rfl, fun W hW => ?_⟩) hS ?_
      · clear hW; go_simp
      simp only [Act.put, List.getElem_toArray, List.getElem_cons_succ, List.getElem_cons_zero, List.setIfInBounds_toArray, List.set_cons_zero, List.set_cons_succ]
      refine wpAnyH_take (i := 11) (v := .pointer (some ⟨bn, 2, none⟩)) rfl (by kernel_rfl) (by kernel_rfl) (by kernel_rfl) (fun _ _ _ h => h) (.inl ⟨by rfl, fun W hW => ?_⟩) hS ?_
      · clear hW; go_simp
      simp only [Act.put, List.getElem_toArray, List.getElem_cons_succ, List.getElem_cons_zero, List.setIfInBounds_toArray, List.set_cons_zero, List.set_cons_succ]
      refine wpAnyH_take (i := 12) (v := .int .i64 v3) rfl (by kernel_rfl) (by kernel_rfl) (by kernel_rfl) (fun _ _ _ h => h) (.inl ⟨by rfl, fun W hW => ?_⟩) hS ?_
      · have d := (chg_cell hW l2 l3 2).trans m2; clear hW; go_simp
      simp only [Act.put, List.getElem_toArray, List.getElem_cons_succ, List.getElem_cons_zero, List.setIfInBounds_toArray, List.set_cons_zero, List.set_cons_succ]
      refine wpAnyH_take (i := 13) (v := .slice (some ⟨bn, 0, none⟩) 4 cn) rfl (by kernel_rfl) (by kernel_rfl) (by kernel_rfl) (fun _ _ _ h => h) (.inl ⟨by rfl, fun W hW => ?_⟩) hS ?_
      · clear hW; go_simp
      simp only [Act.put, List.getElem_toArray, List.getElem_cons_succ, List.getElem_cons_zero, List.setIfInBounds_toArray, List.set_cons_zero, List.set_cons_succ]
      refine wpAnyH_take (i := 14) (v := .pointer (some ⟨bn, 3, none⟩)) rfl (by kernel_rfl) (by kernel_rfl) (by kernel_rfl) (fun _ _ _ h => h) (.inl ⟨by rfl, fun W hW => ?_⟩) hS ?_
      · clear hW; go_simp
      simp only [Act.put, List.getElem_toArray, List.getElem_cons_succ, List.getElem_cons_zero, List.setIfInBounds_toArray, List.set_cons_zero, List.set_cons_succ]
      refine wpAnyH_take (i := 15) (v := .int .i64 v4) rfl (by kernel_rfl) (by kernel_rfl) (by kernel_rfl) (fun _ _ _ h => h) (.inl ⟨by rfl, fun W hW => ?_⟩) hS ?_
      · have d := (chg_cell hW l2 l3 3).trans m3; clear hW; go_simp
      simp only [Act.put, List.getElem_toArray, List.getElem_cons_succ, List.getElem_cons_zero, List.setIfInBounds_toArray, List.set_cons_zero, List.set_cons_succ]
      refine wpAnyH_take (i := 16) (v := .pointer (some ⟨gp, 0, none⟩)) rfl (by kernel_rfl) (by kernel_rfl) (by kernel_rfl) (fun _ _ _ h => h) (.inl ⟨by rfl, fun W hW => ?_⟩) hS ?_
      · clear hW; go_simp
      simp only [Act.put, List.getElem_toArray, List.getElem_cons_succ, List.getElem_cons_zero, List.setIfInBounds_toArray, List.set_cons_zero, List.set_cons_succ]
      refine wpAnyH_take (i := 17) (v := .pointer (some ⟨gp, 5, none⟩)) rfl (by kernel_rfl) (by kernel_rfl) (by kernel_rfl) (fun _ _ _ h => h) (.inl ⟨by rfl, fun W hW => ?_⟩) hS ?_
      · clear hW; go_simp
      simp only [Act.put, List.getElem_toArray, List.getElem_cons_succ, List.getElem_cons_zero, List.setIfInBounds_toArray, List.set_cons_zero, List.set_cons_succ]
      refine wpAnyH_ready (rs := [18]) (by kernel_rfl) (by simp) (AllReadyH.cons rfl (fun K hK => ?_) AllReadyH.nil)
      have HS := Lib.hid hS
      clear hS
      go_simp
      refine hK.out _ _ (HS.out.put (p := ⟨gp, 5, none⟩) (.inl rfl) _) (fun hS => ?_)
      clear HS hK K
      refine wpAnyH_take (i := 19) (v := .pointer (some ⟨gp, 0, none⟩)) rfl (by kernel_rfl) (by kernel_rfl) (by kernel_rfl) (fun _ _ _ h => h) (.inl ⟨by rfl, fun W hW => ?_⟩) hS ?_
      · clear hW; go_simp
      simp only [Act.put, List.getElem_toArray, List.getElem_cons_succ, List.getElem_cons_zero, List.setIfInBounds_toArray, List.set_cons_zero, List.set_cons_succ]
      refine wpAnyH_take (i := 20) (v := .pointer (some ⟨gp, 6, none⟩)) rfl (by kernel_rfl) (by kernel_rfl) (by kernel_rfl) (fun _ _ _ h => h) (.inl ⟨by rfl, fun W hW => ?_⟩) hS ?_
      · clear hW; go_simp
      simp only [Act.put, List.getElem_toArray, List.getElem_cons_succ, List.getElem_cons_zero, List.setIfInBounds_toArray, List.set_cons_zero, List.set_cons_succ]
      refine wpAnyH_ready (rs := [21]) (by kernel_rfl) (by simp) (AllReadyH.cons rfl (fun K hK => ?_) AllReadyH.nil)
      have HS := Lib.hid hS
      clear hS
      go_simp
      refine hK.out _ _ (HS.out.put (p := ⟨gp, 6, none⟩) (.inl rfl) _) (fun hS => ?_)
      clear HS hK K
      refine wpAnyH_take (i := 22) (v := .pointer (some ⟨gp, 0, none⟩)) rfl (by kernel_rfl) (by kernel_rfl) (by kernel_rfl) (fun _ _ _ h => h) (.inl ⟨by rfl, fun W hW => ?_⟩) hS ?_
      · clear hW; go_simp
      simp only [Act.put, List.getElem_toArray, List.getElem_cons_succ, List.getElem_cons_zero, List.setIfInBounds_toArray, List.set_cons_zero, List.set_cons_succ]
      refine wpAnyH_take (i := 23) (v := .pointer (some ⟨gp, 7, none⟩)) rfl (by kernel_rfl) (by kernel_rfl) (by kernel_rfl) (fun _ _ _ h => h) (.inl ⟨by rfl, fun W hW => ?_⟩) hS ?_
      · clear hW; go_simp
      simp only [Act.put, List.getElem_toArray, List.getElem_cons_succ, List.getElem_cons_zero, List.setIfInBounds_toArray, List.set_cons_zero, List.set_cons_succ]
      refine wpAnyH_ready (rs := [24]) (by kernel_rfl) (by simp) (AllReadyH.cons rfl (fun K hK => ?_) AllReadyH.nil)
      have HS := Lib.hid hS
      clear hS
      go_simp
      refine hK.out _ _ (HS.out.put (p := ⟨gp, 7, none⟩) (.inl rfl) _) (fun hS => ?_)
      clear HS hK K
      refine wpAnyH_take (i := 25) (v := .pointer (some ⟨gp, 0, none⟩)) rfl (by kernel_rfl) (by kernel_rfl) (by kernel_rfl) (fun _ _ _ h => h) (.inl ⟨by rfl, fun W hW => ?_⟩) hS ?_
      · clear hW; go_simp
      simp only [Act.put, List.getElem_toArray, List.getElem_cons_succ, List.getElem_cons_zero, List.setIfInBounds_toArray, List.set_cons_zero, List.set_cons_succ]
      refine wpAnyH_take (i := 26) (v := .pointer (some ⟨gp, 8, none⟩)) rfl (by kernel_rfl) (by kernel_rfl) (by kernel_rfl) (fun _ _ _ h => h) (.inl ⟨by rfl, fun W hW => ?_⟩) hS ?_
      · clear hW; go_simp
      simp only [Act.put, List.getElem_toArray, List.getElem_cons_succ, List.getElem_cons_zero, List.setIfInBounds_toArray, List.set_cons_zero, List.set_cons_succ]
      refine wpAnyH_ready (rs := [27]) (by kernel_rfl) (by simp) (AllReadyH.cons rfl (fun K hK => ?_) AllReadyH.nil)
      have HS := Lib.hid hS
      clear hS
      go_simp
      refine hK.out _ _ (HS.out.put (p := ⟨gp, 8, none⟩) (.inl rfl) _) (fun hS => ?_)
      clear HS hK K
      have HS := Lib.hid hS
      clear hS
      refine wpAnyH_done (by kernel_rfl) ?_ _
      go_wp2_with fail
      go_ret
      exact rl_yes HL.out (HR5.out.put HS.out (by rw [← HE.out]; exact ((((HR5.out.plan.drew).put 5 _).put 6 _).put 7 _).put 8 _) HT.out)
  · have e1 : (x.toList == [114, 101, 115, 116]) = false := by
      have q := same_words x wdRest
      rw [decide_eq_false hxw, show wdRest.toList = [114, 101, 115, 116] by rw [ByteArray.toList_eq]; rfl] at q
      exact q
    have HL := Lib.hid (row_line (i := 1) (p := pl) (ws := ws) (by decide) (by decide) (rowOk_word (by rw [HP.out]; exact hxw)))
    clear hxw
    refine wp_region_held_drew (S := fun Wx => Tide.Chg (fun b => b = gp) wc Wx) (by kernel_rfl) (Tide.Chg.refl _ _).drew (fun hS => ?_)
    clear hS
    change wpAnyH _ _ _ _ _ 12 #[false, false, false, false, false, false, false, false, false, false, false, false] _ (World.drew _)
    have hS : Tide.Chg (fun b => b = gp) wc wc.drew := (Tide.Chg.refl _ _).drew
    refine wpAnyH_take (i := 0) (v := .slice (some ⟨bw, 0, none⟩) n cap) rfl (by kernel_rfl) (by kernel_rfl) (by kernel_rfl) (fun _ _ _ h => h) (.inl ⟨by rfl, fun W hW => ?_⟩) hS ?_
    · clear hW; go_simp
    simp only [Act.put, List.getElem_toArray, List.getElem_cons_succ, List.getElem_cons_zero, List.setIfInBounds_toArray, List.set_cons_zero, List.set_cons_succ]
    refine wpAnyH_take (i := 1) (v := .pointer (some ⟨bw, 0, none⟩)) rfl (by kernel_rfl) (by kernel_rfl) (by kernel_rfl) (fun _ _ _ h => h) (.inl ⟨by rfl, fun W hW => ?_⟩) hS ?_
    · clear hW; go_simp
    simp only [Act.put, List.getElem_toArray, List.getElem_cons_succ, List.getElem_cons_zero, List.setIfInBounds_toArray, List.set_cons_zero, List.set_cons_succ]
    refine wpAnyH_take (i := 2) (v := .string x) rfl (by kernel_rfl) (by kernel_rfl) (by kernel_rfl) (fun _ _ _ h => h) (.inl ⟨by rfl, fun W hW => ?_⟩) hS ?_
    · have d := (chg_cell hW l1 hbg 0).trans d0; clear hW; go_simp
    simp only [Act.put, List.getElem_toArray, List.getElem_cons_succ, List.getElem_cons_zero, List.setIfInBounds_toArray, List.set_cons_zero, List.set_cons_succ]
    refine wpAnyH_take (i := 4) (v := .int .i64 1) rfl (by kernel_rfl) (by kernel_rfl) (by kernel_rfl) (fun _ _ _ h => h) (.inl ⟨by rfl, fun W hW => ?_⟩) hS ?_
    · clear hW; go_simp
    simp only [Act.put, List.getElem_toArray, List.getElem_cons_succ, List.getElem_cons_zero, List.setIfInBounds_toArray, List.set_cons_zero, List.set_cons_succ]
    refine wpAnyH_ready (rs := [3]) (by kernel_rfl) (by simp) (AllReadyH.cons rfl (fun K hK => ?_) AllReadyH.nil)
    refine rl_bslice rfl 53 9 4 _ rfl [(0, .string ⟨#[]⟩), (1, .string ⟨#[114, 101, 115, 116]⟩), (2, .string ⟨#[117, 112]⟩), (3, .string ⟨#[100, 111, 119, 110]⟩)] rfl #[.string ⟨#[]⟩, .string ⟨#[114, 101, 115, 116]⟩, .string ⟨#[117, 112]⟩, .string ⟨#[100, 111, 119, 110]⟩] ie (.string ⟨#[]⟩) Tryd.underlying53 hie hz0 hsm hpo HFill.out (hK.out _ _ (hS.alloc _) (fun hS' => ?_))
    clear hS hK K
    have hS := hS'
    clear hS'
    refine wpAnyH_take (i := 5) (v := .pointer (some ⟨wc.heap.size, 1, none⟩)) rfl (by kernel_rfl) (by kernel_rfl) (by kernel_rfl) (fun _ _ _ h => h) (.inl ⟨by rfl, fun W hW => ?_⟩) hS ?_
    · clear hW; go_simp
    simp only [Act.put, List.getElem_toArray, List.getElem_cons_succ, List.getElem_cons_zero, List.setIfInBounds_toArray, List.set_cons_zero, List.set_cons_succ]
    refine wpAnyH_ready (rs := [6]) (by kernel_rfl) (by simp) (AllReadyH.cons rfl (fun K hK => ?_) AllReadyH.nil)
    have HS := Lib.hid hS
    clear hS
    go_simp
    refine hK.out _ _ HS.out (fun hS => ?_)
    clear HS hK K
    refine wpAnyH_take (i := 7) (v := .bool true) rfl (by kernel_rfl) (by kernel_rfl) (by kernel_rfl) (fun _ _ _ h => h) (.inl ⟨by rfl, fun W hW => ?_⟩) hS ?_
    · clear hW; go_simp
    simp only [Act.put, List.getElem_toArray, List.getElem_cons_succ, List.getElem_cons_zero, List.setIfInBounds_toArray, List.set_cons_zero, List.set_cons_succ]
    refine wpAnyH_take (i := 8) (v := .bool true) rfl (by kernel_rfl) (by kernel_rfl) (by kernel_rfl) (fun _ _ _ h => h) (.inl ⟨by rfl, fun W hW => ?_⟩) hS ?_
    · clear hW; go_simp
    simp only [Act.put, List.getElem_toArray, List.getElem_cons_succ, List.getElem_cons_zero, List.setIfInBounds_toArray, List.set_cons_zero, List.set_cons_succ]
    refine wpAnyH_take (i := 9) (v := undef) rfl (by kernel_rfl) (by kernel_rfl) (by kernel_rfl) (fun _ _ _ h => h) (.inr ⟨by rfl, rfl⟩) hS ?_
    simp only [Act.put, List.getElem_toArray, List.getElem_cons_succ, List.getElem_cons_zero, List.setIfInBounds_toArray, List.set_cons_zero, List.set_cons_succ]
    refine wpAnyH_take (i := 10) (v := undef) rfl (by kernel_rfl) (by kernel_rfl) (by kernel_rfl) (fun _ _ _ h => h) (.inr ⟨by rfl, rfl⟩) hS ?_
    simp only [Act.put, List.getElem_toArray, List.getElem_cons_succ, List.getElem_cons_zero, List.setIfInBounds_toArray, List.set_cons_zero, List.set_cons_succ]
    refine wpAnyH_take (i := 11) (v := .bool true) rfl (by kernel_rfl) (by kernel_rfl) (by kernel_rfl) (fun _ _ _ h => h) (.inl ⟨by rfl, fun W hW => ?_⟩) hS ?_
    · clear hW; go_simp
    simp only [Act.put, List.getElem_toArray, List.getElem_cons_succ, List.getElem_cons_zero, List.setIfInBounds_toArray, List.set_cons_zero, List.set_cons_succ]
    have HS := Lib.hid hS
    clear hS
    refine wpAnyH_done (by kernel_rfl) ?_ _
    go_wp2_with fail
    go_ret
    exact rl_no HL.out (HR.out.below.trans (HS.out.below HR.out.below.size (fun k hk e => by have e2 : k = gp := e; have := HR.out.og; omega)))
set_option maxRecDepth 100000 in
set_option maxHeartbeats 12800000 in
theorem planLine2 (w0 W : World) (gp bw cap : Nat) (v : Value) (pl : Pln) (ws : List ByteArray) (h : RlS w0 W gp v pl) (hw : WdsAt W bw 0 ws) (hbg : bw ≠ gp) (hs : ∀ x ∈ ws, x.size ≤ 1000000) (h0 : 1 ≤ ws.length) (hl : ws.length ≤ 1000001) (hc : ws.length ≤ cap) :
    Calls Tryd.prog 50 #[.pointer (some ⟨gp, 0, none⟩), .int .i64 2, .slice (some ⟨bw, 0, none⟩) ws.length cap] W (RlPost w0 gp 2 pl ws) := by
  obtain ⟨o, hoff⟩ : ∃ o, o = if cap = 1 then 0 else 1 := ⟨_, rfl⟩
  have HWh := Lib.hid (show Calls Tryd.prog 66 #[.slice (some ⟨bw, o, none⟩) (ws.length - 1) (cap - 1), .int .i64 4, .int .i64 7] W (WhsPost W (ws.drop 1) 4) from by
    have hd : WdsAt W bw o (ws.drop 1) := by
      by_cases e : cap = 1
      · rw [List.drop_eq_nil_of_le (by omega)]; rw [if_pos e] at hoff; subst hoff; exact hw.take 0
      · rw [if_neg e] at hoff; subst hoff; have := hw.drop 1; rwa [Nat.zero_add] at this
    have q := refWholes (ws.drop 1) bw o (cap - 1) 4 W hd (fun z hz => hs z (List.mem_of_mem_drop hz)) (by rw [List.length_drop]; omega) (by decide)
    rw [List.length_drop] at q
    exact q)
  have HH := Lib.hid h
  obtain ⟨x, hx⟩ := Tide.get_some ws (show 0 < ws.length by omega)
  have HP := Lib.hid (Tide.pieceAt_get hx)
  have c0 : W.cell? ⟨bw, 0, none⟩ = some (.string x) := hw.cell 0 x hx
  have hbl := hw.lt
  have i1 : (ws.length : Int) ≤ 1000001 := by omega
  have i2 : (0 : Int) < (ws.length : Int) := by omega
  have i3 : 0 < ws.length := by omega
  have i4 : (ws.length : Int) ≤ (cap : Int) := by omega
  obtain ⟨n, hn⟩ : ∃ n, ws.length = n := ⟨_, rfl⟩
  have HN := Lib.hid hn
  obtain ⟨u, hu⟩ : ∃ u, ws.drop 1 = u := ⟨_, rfl⟩
  have HU := Lib.hid hu
  obtain ⟨ie, hie, hz0, hz1⟩ := info_two text_info2
  have hsm : ¬ 4 * ie.size > 2 ^ 24 := by rw [hz1]; decide
  have hpo : ¬ 4 * ie.size = 0 := by rw [hz1]; decide
  have HFill := Lib.hid (show Instr.fill (fun i => some (i * ie.size, ie.size)) ((Array.range (4 * ie.size)).map ((Value.string ⟨#[]⟩).cells[· % (Value.string ⟨#[]⟩).cells.size]!)) [(0, .string ⟨#[]⟩), (1, .string ⟨#[114, 101, 115, 116]⟩), (2, .string ⟨#[117, 112]⟩), (3, .string ⟨#[100, 111, 119, 110]⟩)] = some #[.string ⟨#[]⟩, .string ⟨#[114, 101, 115, 116]⟩, .string ⟨#[117, 112]⟩, .string ⟨#[100, 111, 119, 110]⟩] from by rw [hz1]; exact words_fill)
  rw [hn, hu] at HWh
  rw [hn] at i1 i2 i3 i4 hc ⊢
  clear h hx hw hs h0 hl hn hu hz1
  go_enter Tryd.func50, Tryd.ntmps50
  go_upto_region 14 with fail
  go_cut [9] (fun vn wx => Hid (WhsMid W wx u 4 vn))
  case first =>
    by_cases hcap : cap = 1
    · rw [if_pos hcap] at hoff
      subst hoff hcap
      have hn1 : n = 1 := by omega
      subst hn1
      clear i1 i2 i3 i4 hc
      go_wp2_with fail
      refine HWh.out.mono ?_
      rintro e w1 ⟨vn, rfl, hy, hno, hb⟩
      have HM := Lib.hid (WhsMid.mk hy hno hb)
      clear hy hno hb HWh
      go_wp2_with fail
      go_meet
      exact HM
    · rw [if_neg hcap] at hoff
      subst hoff
      have hc1 : 1 < cap := by omega
      have hc2 : (1 : Int) ≤ (cap : Int) := by omega
      have hc3 : (1 : Int) ≤ (n : Int) := by omega
      go_wp2_with fail
      refine HWh.out.mono ?_
      rintro e w1 ⟨vn, rfl, hy, hno, hb⟩
      have HM := Lib.hid (WhsMid.mk hy hno hb)
      clear hy hno hb HWh
      go_wp2_with fail
      go_meet
      exact HM
  have HM := hcut
  clear hcut HWh hoff
  have HR := Lib.hid (HH.out.next HM.out.below)
  have l1 : bw < wc.heap.size := Nat.lt_of_lt_of_le hbl HM.out.below.size
  have d0 : wc.cell? ⟨bw, 0, none⟩ = some (.string x) := (HM.out.below.cell (p := ⟨bw, 0, none⟩) hbl).trans c0
  clear c0 hbl
  go_upto_region 15 with fail
  by_cases hxw : x = wdUp
  · have e1 : (x.toList == [117, 112]) = true := by subst hxw; rw [ByteArray.toList_eq]; rfl
    have HX := Lib.hid (HP.out.trans hxw)
    clear hxw
    cases hok : wordsOk u 4
    · have hvn := HM.out.no hok
      subst hvn
      have hq := fun w => Lib.run_eql_slice_nil (P := Tryd.prog) w 69 3 none 0 0 0 0 Tryd.underlying69
      have HL := Lib.hid (row_line (i := 2) (p := pl) (ws := ws) (by decide) (by decide) (rowOk_nums (by rw [HU.out]; exact hok)))
      clear hok
      refine wp_region_held_drew (S := fun Wx => Tide.Chg (fun b => b = gp) wc Wx) (by kernel_rfl) (Tide.Chg.refl _ _).drew (fun hS => ?_)
      clear hS
      change wpAnyH _ _ _ _ _ 12 #[false, false, false, false, false, false, false, false, false, false, false, false] _ (World.drew _)
      have hS : Tide.Chg (fun b => b = gp) wc wc.drew := (Tide.Chg.refl _ _).drew
      refine wpAnyH_take (i := 0) (v := .slice (some ⟨bw, 0, none⟩) n cap) rfl (by kernel_rfl) (by kernel_rfl) (by kernel_rfl) (fun _ _ _ h => h) (.inl ⟨by rfl, fun W hW => ?_⟩) hS ?_
      · clear hW; go_simp
      simp only [Act.put, List.getElem_toArray, List.getElem_cons_succ, List.getElem_cons_zero, List.setIfInBounds_toArray, List.set_cons_zero, List.set_cons_succ]
      refine wpAnyH_take (i := 1) (v := .pointer (some ⟨bw, 0, none⟩)) rfl (by kernel_rfl) (by kernel_rfl) (by kernel_rfl) (fun _ _ _ h => h) (.inl ⟨by rfl, fun W hW => ?_⟩) hS ?_
      · clear hW; go_simp
      simp only [Act.put, List.getElem_toArray, List.getElem_cons_succ, List.getElem_cons_zero, List.setIfInBounds_toArray, List.set_cons_zero, List.set_cons_succ]
      refine wpAnyH_take (i := 2) (v := .string x) rfl (by kernel_rfl) (by kernel_rfl) (by kernel_rfl) (fun _ _ _ h => h) (.inl ⟨by rfl, fun W hW => ?_⟩) hS ?_
      · have d := (chg_cell hW l1 hbg 0).trans d0; clear hW; go_simp
      simp only [Act.put, List.getElem_toArray, List.getElem_cons_succ, List.getElem_cons_zero, List.setIfInBounds_toArray, List.set_cons_zero, List.set_cons_succ]
      refine wpAnyH_take (i := 4) (v := .int .i64 2) rfl (by kernel_rfl) (by kernel_rfl) (by kernel_rfl) (fun _ _ _ h => h) (.inl ⟨by rfl, fun W hW => ?_⟩) hS ?_
      · clear hW; go_simp
      simp only [Act.put, List.getElem_toArray, List.getElem_cons_succ, List.getElem_cons_zero, List.setIfInBounds_toArray, List.set_cons_zero, List.set_cons_succ]
      refine wpAnyH_ready (rs := [3]) (by kernel_rfl) (by simp) (AllReadyH.cons rfl (fun K hK => ?_) AllReadyH.nil)
      refine rl_bslice rfl 53 9 4 _ rfl [(0, .string ⟨#[]⟩), (1, .string ⟨#[114, 101, 115, 116]⟩), (2, .string ⟨#[117, 112]⟩), (3, .string ⟨#[100, 111, 119, 110]⟩)] rfl #[.string ⟨#[]⟩, .string ⟨#[114, 101, 115, 116]⟩, .string ⟨#[117, 112]⟩, .string ⟨#[100, 111, 119, 110]⟩] ie (.string ⟨#[]⟩) Tryd.underlying53 hie hz0 hsm hpo HFill.out (hK.out _ _ (hS.alloc _) (fun hS' => ?_))
      clear hS hK K
      have hS := hS'
      clear hS'
      refine wpAnyH_take (i := 5) (v := .pointer (some ⟨wc.heap.size, 2, none⟩)) rfl (by kernel_rfl) (by kernel_rfl) (by kernel_rfl) (fun _ _ _ h => h) (.inl ⟨by rfl, fun W hW => ?_⟩) hS ?_
      · clear hW; go_simp
      simp only [Act.put, List.getElem_toArray, List.getElem_cons_succ, List.getElem_cons_zero, List.setIfInBounds_toArray, List.set_cons_zero, List.set_cons_succ]
      refine wpAnyH_ready (rs := [6]) (by kernel_rfl) (by simp) (AllReadyH.cons rfl (fun K hK => ?_) AllReadyH.nil)
      have HS := Lib.hid hS
      clear hS
      go_simp
      refine hK.out _ _ HS.out (fun hS => ?_)
      clear HS hK K
      refine wpAnyH_take (i := 7) (v := .bool false) rfl (by kernel_rfl) (by kernel_rfl) (by kernel_rfl) (fun _ _ _ h => h) (.inl ⟨by rfl, fun W hW => ?_⟩) hS ?_
      · clear hW; go_simp
      simp only [Act.put, List.getElem_toArray, List.getElem_cons_succ, List.getElem_cons_zero, List.setIfInBounds_toArray, List.set_cons_zero, List.set_cons_succ]
      refine wpAnyH_take (i := 8) (v := .bool false) rfl (by kernel_rfl) (by kernel_rfl) (by kernel_rfl) (fun _ _ _ h => h) (.inl ⟨by rfl, fun W hW => ?_⟩) hS ?_
      · clear hW; go_simp
      simp only [Act.put, List.getElem_toArray, List.getElem_cons_succ, List.getElem_cons_zero, List.setIfInBounds_toArray, List.set_cons_zero, List.set_cons_succ]
      refine wpAnyH_take (i := 9) (v := .slice none 0 0) rfl (by kernel_rfl) (by kernel_rfl) (by kernel_rfl) (fun _ _ _ h => h) (.inl ⟨by rfl, fun W hW => ?_⟩) hS ?_
      · clear hW; go_simp
      simp only [Act.put, List.getElem_toArray, List.getElem_cons_succ, List.getElem_cons_zero, List.setIfInBounds_toArray, List.set_cons_zero, List.set_cons_succ]
      refine wpAnyH_take (i := 10) (v := .bool true) rfl (by kernel_rfl) (by kernel_rfl) (by kernel_rfl) (fun _ _ _ h => h) (.inl ⟨by rfl, fun W hW => ?_⟩) hS ?_
      · clear hW; go_simp
      simp only [Act.put, List.getElem_toArray, List.getElem_cons_succ, List.getElem_cons_zero, List.setIfInBounds_toArray, List.set_cons_zero, List.set_cons_succ]
      refine wpAnyH_take (i := 11) (v := .bool true) rfl (by kernel_rfl) (by kernel_rfl) (by kernel_rfl) (fun _ _ _ h => h) (.inl ⟨by rfl, fun W hW => ?_⟩) hS ?_
      · clear hW; go_simp
      simp only [Act.put, List.getElem_toArray, List.getElem_cons_succ, List.getElem_cons_zero, List.setIfInBounds_toArray, List.set_cons_zero, List.set_cons_succ]
      have HS := Lib.hid hS
      clear hS
      refine wpAnyH_done (by kernel_rfl) ?_ _
      go_wp2_with fail
      go_ret
      exact rl_no HL.out (HR.out.below.trans (HS.out.below HR.out.below.size (fun k hk e => by have e2 : k = gp := e; have := HR.out.og; omega)))
    · obtain ⟨bn, cn, hvn, hbn1, hbn2, hcn⟩ := nums_form (w := W) (w' := wc) (ws := u) (n := 4) (by decide) (words_many hok) (HM.out.yes hok)
      subst hvn
      have hq := fun w => Lib.run_eql_slice_nil (P := Tryd.prog) w 69 3 (some ⟨bn, 0, none⟩) 4 cn 0 0 Tryd.underlying69
      obtain ⟨p', hp', ht', hcs⟩ := rl_cells (i := 2) (by decide) (by decide) (p := pl) (ws := ws) (v := v) (rowOk_yes HX.out (by rw [HU.out]; exact hok))
      have HL := Lib.hid hp'
      have HT := Lib.hid ht'
      have hgl := HH.out.plan.inside
      have l3 : bn ≠ gp := by omega
      obtain ⟨v1, hv1⟩ : ∃ z, wV (Tide.pieceAt u 0) = z := ⟨_, rfl⟩
      obtain ⟨v2, hv2⟩ : ∃ z, wV (Tide.pieceAt u 1) = z := ⟨_, rfl⟩
      obtain ⟨v3, hv3⟩ : ∃ z, wV (Tide.pieceAt u 2) = z := ⟨_, rfl⟩
      obtain ⟨v4, hv4⟩ : ∃ z, wV (Tide.pieceAt u 3) = z := ⟨_, rfl⟩
      have n0 : wc.cell? ⟨bn, 0, none⟩ = some (.int .i64 v1) := by rw [← hv1]; exact hcn 0 (by decide)
      have n1 : wc.cell? ⟨bn, 1, none⟩ = some (.int .i64 v2) := by rw [← hv2]; exact hcn 1 (by decide)
      have n2 : wc.cell? ⟨bn, 2, none⟩ = some (.int .i64 v3) := by rw [← hv3]; exact hcn 2 (by decide)
      have n3 : wc.cell? ⟨bn, 3, none⟩ = some (.int .i64 v4) := by rw [← hv4]; exact hcn 3 (by decide)
      have HE := Lib.hid (show ((((plnC pl v).setIfInBounds 9 (.int .i64 v1)).setIfInBounds 10 (.int .i64 v2)).setIfInBounds 11 (.int .i64 v3)).setIfInBounds 12 (.int .i64 v4) = plnC p' v from by rw [← hv1, ← hv2, ← hv3, ← hv4, ← hcs, HU.out]; rfl)
      clear hp' ht' hcs hok hcn hv1 hv2 hv3 hv4
      refine wp_region_held_drew (S := fun Wx => Tide.Chg (fun b => b = gp) wc Wx) (by kernel_rfl) (Tide.Chg.refl _ _).drew (fun hS => ?_)
      clear hS
      change wpAnyH _ _ _ _ _ 12 #[false, false, false, false, false, false, false, false, false, false, false, false] _ (World.drew _)
      have hS : Tide.Chg (fun b => b = gp) wc wc.drew := (Tide.Chg.refl _ _).drew
      refine wpAnyH_take (i := 0) (v := .slice (some ⟨bw, 0, none⟩) n cap) rfl (by kernel_rfl) (by kernel_rfl) (by kernel_rfl) (fun _ _ _ h => h) (.inl ⟨by rfl, fun W hW => ?_⟩) hS ?_
      · clear hW; go_simp
      simp only [Act.put, List.getElem_toArray, List.getElem_cons_succ, List.getElem_cons_zero, List.setIfInBounds_toArray, List.set_cons_zero, List.set_cons_succ]
      refine wpAnyH_take (i := 1) (v := .pointer (some ⟨bw, 0, none⟩)) rfl (by kernel_rfl) (by kernel_rfl) (by kernel_rfl) (fun _ _ _ h => h) (.inl ⟨by rfl, fun W hW => ?_⟩) hS ?_
      · clear hW; go_simp
      simp only [Act.put, List.getElem_toArray, List.getElem_cons_succ, List.getElem_cons_zero, List.setIfInBounds_toArray, List.set_cons_zero, List.set_cons_succ]
      refine wpAnyH_take (i := 2) (v := .string x) rfl (by kernel_rfl) (by kernel_rfl) (by kernel_rfl) (fun _ _ _ h => h) (.inl ⟨by rfl, fun W hW => ?_⟩) hS ?_
      · have d := (chg_cell hW l1 hbg 0).trans d0; clear hW; go_simp
      simp only [Act.put, List.getElem_toArray, List.getElem_cons_succ, List.getElem_cons_zero, List.setIfInBounds_toArray, List.set_cons_zero, List.set_cons_succ]
      refine wpAnyH_take (i := 4) (v := .int .i64 2) rfl (by kernel_rfl) (by kernel_rfl) (by kernel_rfl) (fun _ _ _ h => h) (.inl ⟨by rfl, fun W hW => ?_⟩) hS ?_
      · clear hW; go_simp
      simp only [Act.put, List.getElem_toArray, List.getElem_cons_succ, List.getElem_cons_zero, List.setIfInBounds_toArray, List.set_cons_zero, List.set_cons_succ]
      refine wpAnyH_ready (rs := [3]) (by kernel_rfl) (by simp) (AllReadyH.cons rfl (fun K hK => ?_) AllReadyH.nil)
      refine rl_bslice rfl 53 9 4 _ rfl [(0, .string ⟨#[]⟩), (1, .string ⟨#[114, 101, 115, 116]⟩), (2, .string ⟨#[117, 112]⟩), (3, .string ⟨#[100, 111, 119, 110]⟩)] rfl #[.string ⟨#[]⟩, .string ⟨#[114, 101, 115, 116]⟩, .string ⟨#[117, 112]⟩, .string ⟨#[100, 111, 119, 110]⟩] ie (.string ⟨#[]⟩) Tryd.underlying53 hie hz0 hsm hpo HFill.out (hK.out _ _ (hS.alloc _) (fun hS' => ?_))
      clear hS hK K
      have hS := hS'
      clear hS'
      refine wpAnyH_take (i := 5) (v := .pointer (some ⟨wc.heap.size, 2, none⟩)) rfl (by kernel_rfl) (by kernel_rfl) (by kernel_rfl) (fun _ _ _ h => h) (.inl ⟨by rfl, fun W hW => ?_⟩) hS ?_
      · clear hW; go_simp
      simp only [Act.put, List.getElem_toArray, List.getElem_cons_succ, List.getElem_cons_zero, List.setIfInBounds_toArray, List.set_cons_zero, List.set_cons_succ]
      refine wpAnyH_ready (rs := [6]) (by kernel_rfl) (by simp) (AllReadyH.cons rfl (fun K hK => ?_) AllReadyH.nil)
      have HS := Lib.hid hS
      clear hS
      go_simp
      refine hK.out _ _ HS.out (fun hS => ?_)
      clear HS hK K
      refine wpAnyH_take (i := 7) (v := .bool false) rfl (by kernel_rfl) (by kernel_rfl) (by kernel_rfl) (fun _ _ _ h => h) (.inl ⟨by rfl, fun W hW => ?_⟩) hS ?_
      · clear hW; go_simp
      simp only [Act.put, List.getElem_toArray, List.getElem_cons_succ, List.getElem_cons_zero, List.setIfInBounds_toArray, List.set_cons_zero, List.set_cons_succ]
      refine wpAnyH_take (i := 8) (v := .bool false) rfl (by kernel_rfl) (by kernel_rfl) (by kernel_rfl) (fun _ _ _ h => h) (.inl ⟨by rfl, fun W hW => ?_⟩) hS ?_
      · clear hW; go_simp
      simp only [Act.put, List.getElem_toArray, List.getElem_cons_succ, List.getElem_cons_zero, List.setIfInBounds_toArray, List.set_cons_zero, List.set_cons_succ]
      refine wpAnyH_take (i := 9) (v := .slice (some ⟨bn, 0, none⟩) 4 cn) rfl (by kernel_rfl) (by kernel_rfl) (by kernel_rfl) (fun _ _ _ h => h) (.inl ⟨by rfl, fun W hW => ?_⟩) hS ?_
      · clear hW; go_simp
      simp only [Act.put, List.getElem_toArray, List.getElem_cons_succ, List.getElem_cons_zero, List.setIfInBounds_toArray, List.set_cons_zero, List.set_cons_succ]
      refine wpAnyH_take (i := 10) (v := .bool false) rfl (by kernel_rfl) (by kernel_rfl) (by kernel_rfl) (fun _ _ _ h => h) (.inl ⟨by rfl, fun W hW => ?_⟩) hS ?_
      · clear hW; go_simp
      simp only [Act.put, List.getElem_toArray, List.getElem_cons_succ, List.getElem_cons_zero, List.setIfInBounds_toArray, List.set_cons_zero, List.set_cons_succ]
      refine wpAnyH_take (i := 11) (v := .bool false) rfl (by kernel_rfl) (by kernel_rfl) (by kernel_rfl) (fun _ _ _ h => h) (.inl ⟨by rfl, fun W hW => ?_⟩) hS ?_
      · clear hW; go_simp
      simp only [Act.put, List.getElem_toArray, List.getElem_cons_succ, List.getElem_cons_zero, List.setIfInBounds_toArray, List.set_cons_zero, List.set_cons_succ]
      have HS := Lib.hid hS
      clear hS
      refine wpAnyH_done (by kernel_rfl) ?_ _
      have HS := Lib.hid (show Tide.Chg (fun b => b = gp) wc (wc.alloc (.cells #[.string ⟨#[]⟩, .string ⟨#[114, 101, 115, 116]⟩, .string ⟨#[117, 112]⟩, .string ⟨#[100, 111, 119, 110]⟩] 9)).drew from HS.out)
      have HR5 := Lib.hid (HR.out.put HS.out (HR.out.plan.chg (Tide.Chg.of_below ((Below.refl _ _).alloc (Nat.le_refl _) _).drew (Nat.le_refl _) : Tide.Chg (fun _ => False) wc _) (fun h => h)) rfl)
      have m0 := (chg_cell HS.out hbn2 l3 0).trans n0
      have m1 := (chg_cell HS.out hbn2 l3 1).trans n1
      have m2 := (chg_cell HS.out hbn2 l3 2).trans n2
      have m3 := (chg_cell HS.out hbn2 l3 3).trans n3
      have l2 := Nat.lt_of_lt_of_le hbn2 HS.out.size
      clear n0 n1 n2 n3 hbn2 hq hbn1 HR HM HS d0 l1 e1 HFill HH
      go_upto_region 21 with fail
      generalize (wc.alloc (.cells #[.string ⟨#[]⟩, .string ⟨#[114, 101, 115, 116]⟩, .string ⟨#[117, 112]⟩, .string ⟨#[100, 111, 119, 110]⟩] 9)).drew = w5 at HR5 m0 m1 m2 m3 l2 ⊢
      have q0 := HR5.out.plan.here (i := 9) rfl
      have q0' := HR5.out.plan.here (i := 9) rfl
      have s0 := HR5.out.plan.soft 9
      have q1' := HR5.out.plan.here (i := 10) rfl
      have s1 := HR5.out.plan.soft 10
      have q2' := HR5.out.plan.here (i := 11) rfl
      have s2 := HR5.out.plan.soft 11
      have q3' := HR5.out.plan.here (i := 12) rfl
      have s3 := HR5.out.plan.soft 12
      clear q0
      refine wp_region_held_drew (S := fun Wx => Tide.Chg (fun b => b = gp) w5 Wx) (by kernel_rfl) (Tide.Chg.refl _ _).drew (fun hS => ?_)
      clear hS
      change wpAnyH _ _ _ _ _ 17 #[false, false, false, false, false, false, false, false, false, false, false, false, false, false, false, false, false] _ (World.drew _)
      have hS : Tide.Chg (fun b => b = gp) w5 w5.drew := (Tide.Chg.refl _ _).drew
      refine wpAnyH_take (i := 0) (v := .pointer (some ⟨gp, 0, none⟩)) rfl (by kernel_rfl) (by kernel_rfl) (by kernel_rfl) (fun _ _ _ h => h) (.inl ⟨by rfl, fun W hW => ?_⟩) hS ?_
      · clear hW; go_simp
      simp only [Act.put, List.getElem_toArray, List.getElem_cons_succ, List.getElem_cons_zero, List.setIfInBounds_toArray, List.set_cons_zero, List.set_cons_succ]
      refine wpAnyH_take (i := 1) (v := .slice (some ⟨bn, 0, none⟩) 4 cn) rfl (by kernel_rfl) (by kernel_rfl) (by kernel_rfl) (fun _ _ _ h => h) (.inl ⟨by rfl, fun W hW => ?_⟩) hS ?_
      · clear hW; go_simp
      simp only [Act.put, List.getElem_toArray, List.getElem_cons_succ, List.getElem_cons_zero, List.setIfInBounds_toArray, List.set_cons_zero, List.set_cons_succ]
      refine wpAnyH_take (i := 2) (v := .pointer (some ⟨bn, 0, none⟩)) rfl (by kernel_rfl) (by kernel_rfl) (by kernel_rfl) (fun _ _ _ h => h) (.inl ⟨by rfl, fun W hW => ?_⟩) hS ?_
      · clear hW; go_simp
      simp only [Act.put, List.getElem_toArray, List.getElem_cons_succ, List.getElem_cons_zero, List.setIfInBounds_toArray, List.set_cons_zero, List.set_cons_succ]
      refine wpAnyH_take (i := 3) (v := .int .i64 v1) rfl (by kernel_rfl) (by kernel_rfl) (by kernel_rfl) (fun _ _ _ h => h) (.inl ⟨by rfl, fun W hW => ?_⟩) hS ?_
      · have d := (chg_cell hW l2 l3 0).trans m0; clear hW; go_simp
      simp only [Act.put, List.getElem_toArray, List.getElem_cons_succ, List.getElem_cons_zero, List.setIfInBounds_toArray, List.set_cons_zero, List.set_cons_succ]
      refine wpAnyH_take (i := 4) (v := .slice (some ⟨bn, 0, none⟩) 4 cn) rfl (by kernel_rfl) (by kernel_rfl) (by kernel_rfl) (fun _ _ _ h => h) (.inl ⟨by rfl, fun W hW => ?_⟩) hS ?_
      · clear hW; go_simp
      simp only [Act.put, List.getElem_toArray, List.getElem_cons_succ, List.getElem_cons_zero, List.setIfInBounds_toArray, List.set_cons_zero, List.set_cons_succ]
      refine wpAnyH_take (i := 5) (v := .pointer (some ⟨bn, 1, none⟩)) rfl (by kernel_rfl) (by kernel_rfl) (by kernel_rfl) (fun _ _ _ h => h) (.inl ⟨by rfl, fun W hW => ?_⟩) hS ?_
      · clear hW; go_simp
      simp only [Act.put, List.getElem_toArray, List.getElem_cons_succ, List.getElem_cons_zero, List.setIfInBounds_toArray, List.set_cons_zero, List.set_cons_succ]
      refine wpAnyH_take (i := 6) (v := .int .i64 v2) rfl (by kernel_rfl) (by kernel_rfl) (by kernel_rfl) (fun _ _ _ h => h) (.inl ⟨by rfl, fun W hW => ?_⟩) hS ?_
      · have d := (chg_cell hW l2 l3 1).trans m1; clear hW; go_simp
      simp only [Act.put, List.getElem_toArray, List.getElem_cons_succ, List.getElem_cons_zero, List.setIfInBounds_toArray, List.set_cons_zero, List.set_cons_succ]
      refine wpAnyH_take (i := 7) (v := .slice (some ⟨bn, 0, none⟩) 4 cn) rfl (by kernel_rfl) (by kernel_rfl) (by kernel_rfl) (fun _ _ _ h => h) (.inl ⟨by rfl, fun W hW => ?_⟩) hS ?_
      · clear hW; go_simp
      simp only [Act.put, List.getElem_toArray, List.getElem_cons_succ, List.getElem_cons_zero, List.setIfInBounds_toArray, List.set_cons_zero, List.set_cons_succ]
      refine wpAnyH_take (i := 8) (v := .pointer (some ⟨bn, 2, none⟩)) rfl (by kernel_rfl) (by kernel_rfl) (by kernel_rfl) (fun _ _ _ h => h) (.inl ⟨by rfl, fun W hW => ?_⟩) hS ?_
      · clear hW; go_simp
      simp only [Act.put, List.getElem_toArray, List.getElem_cons_succ, List.getElem_cons_zero, List.setIfInBounds_toArray, List.set_cons_zero, List.set_cons_succ]
      refine wpAnyH_take (i := 9) (v := .int .i64 v3) rfl (by kernel_rfl) (by kernel_rfl) (by kernel_rfl) (fun _ _ _ h => h) (.inl ⟨by rfl, fun W hW => ?_⟩) hS ?_
      · have d := (chg_cell hW l2 l3 2).trans m2; clear hW; go_simp
      simp only [Act.put, List.getElem_toArray, List.getElem_cons_succ, List.getElem_cons_zero, List.setIfInBounds_toArray, List.set_cons_zero, List.set_cons_succ]
      refine wpAnyH_take (i := 10) (v := .slice (some ⟨bn, 0, none⟩) 4 cn) rfl (by kernel_rfl) (by kernel_rfl) (by kernel_rfl) (fun _ _ _ h => h) (.inl ⟨by rfl, fun W hW => ?_⟩) hS ?_
      · clear hW; go_simp
      simp only [Act.put, List.getElem_toArray, List.getElem_cons_succ, List.getElem_cons_zero, List.setIfInBounds_toArray, List.set_cons_zero, List.set_cons_succ]
      refine wpAnyH_take (i := 11) (v := .pointer (some ⟨bn, 3, none⟩)) rfl (by kernel_rfl) (by kernel_rfl) (by kernel_rfl) (fun _ _ _ h => h) (.inl ⟨by rfl, fun W hW => ?_⟩) hS ?_
      · clear hW; go_simp
      simp only [Act.put, List.getElem_toArray, List.getElem_cons_succ, List.getElem_cons_zero, List.setIfInBounds_toArray, List.set_cons_zero, List.set_cons_succ]
      refine wpAnyH_take (i := 12) (v := .int .i64 v4) rfl (by kernel_rfl) (by kernel_rfl) (by kernel_rfl) (fun _ _ _ h => h) (.inl ⟨by rfl, fun W hW => ?_⟩) hS ?_
      · have d := (chg_cell hW l2 l3 3).trans m3; clear hW; go_simp
      simp only [Act.put, List.getElem_toArray, List.getElem_cons_succ, List.getElem_cons_zero, List.setIfInBounds_toArray, List.set_cons_zero, List.set_cons_succ]
      refine wpAnyH_take (i := 13) (v := .agg #[.int .i64 v1, .int .i64 v2, .int .i64 v3, .int .i64 v4]) rfl (by kernel_rfl) (by kernel_rfl) (by kernel_rfl) (fun _ _ _ h => h) (.inl ⟨by rfl, fun W hW => ?_⟩) hS ?_
      · exact rl_exec_built rfl rfl (pace_built v1 v2 v3 v4)
      simp only [Act.put, List.getElem_toArray, List.getElem_cons_succ, List.getElem_cons_zero, List.setIfInBounds_toArray, List.set_cons_zero, List.set_cons_succ]
      refine wpAnyH_take (i := 14) (v := .pointer (some ⟨gp, 0, none⟩)) rfl (by kernel_rfl) (by kernel_rfl) (by kernel_rfl) (fun _ _ _ h => h) (.inl ⟨by rfl, fun W hW => ?_⟩) hS ?_
      · clear hW; go_simp
      simp only [Act.put, List.getElem_toArray, List.getElem_cons_succ, List.getElem_cons_zero, List.setIfInBounds_toArray, List.set_cons_zero, List.set_cons_succ]
      refine wpAnyH_take (i := 15) (v := .pointer (some ⟨gp, 9, none⟩)) rfl (by kernel_rfl) (by kernel_rfl) (by kernel_rfl) (fun _ _ _ h => h) (.inl ⟨by rfl, fun W hW => ?_⟩) hS ?_
      · clear hW; go_simp
      simp only [Act.put, List.getElem_toArray, List.getElem_cons_succ, List.getElem_cons_zero, List.setIfInBounds_toArray, List.set_cons_zero, List.set_cons_succ]
      refine wpAnyH_ready (rs := [16]) (by kernel_rfl) (by simp) (AllReadyH.cons rfl (fun K hK => ?_) AllReadyH.nil)
      refine rl_store_mid rfl 39 (.tmp 137) (.tmp 135) rfl gp 9 #[.int .i64 v1, .int .i64 v2, .int .i64 v3, .int .i64 v4] rfl rfl (rl_there HR5.out.plan.drew (by show 9 + 4 ≤ 18; decide)) (by kernel_rfl) (by kernel_rfl) (hK.out _ _ ((((hS.put (p := ⟨gp, 9, none⟩) (.inl rfl) _).put (p := ⟨gp, 10, none⟩) (.inl rfl) _).put (p := ⟨gp, 11, none⟩) (.inl rfl) _).put (p := ⟨gp, 12, none⟩) (.inl rfl) _) (fun hS' => ?_))
      clear hS hK K
      have hS := hS'
      clear hS'
      have HS := Lib.hid hS
      clear hS
      refine wpAnyH_done (by kernel_rfl) ?_ _
      go_wp2_with fail
      go_ret
      exact rl_yes HL.out (HR5.out.put HS.out (by rw [← HE.out]; exact ((((HR5.out.plan.drew).put 9 _).put 10 _).put 11 _).put 12 _) HT.out)
  · have e1 : (x.toList == [117, 112]) = false := by
      have q := same_words x wdUp
      rw [decide_eq_false hxw, show wdUp.toList = [117, 112] by rw [ByteArray.toList_eq]; rfl] at q
      exact q
    have HL := Lib.hid (row_line (i := 2) (p := pl) (ws := ws) (by decide) (by decide) (rowOk_word (by rw [HP.out]; exact hxw)))
    clear hxw
    refine wp_region_held_drew (S := fun Wx => Tide.Chg (fun b => b = gp) wc Wx) (by kernel_rfl) (Tide.Chg.refl _ _).drew (fun hS => ?_)
    clear hS
    change wpAnyH _ _ _ _ _ 12 #[false, false, false, false, false, false, false, false, false, false, false, false] _ (World.drew _)
    have hS : Tide.Chg (fun b => b = gp) wc wc.drew := (Tide.Chg.refl _ _).drew
    refine wpAnyH_take (i := 0) (v := .slice (some ⟨bw, 0, none⟩) n cap) rfl (by kernel_rfl) (by kernel_rfl) (by kernel_rfl) (fun _ _ _ h => h) (.inl ⟨by rfl, fun W hW => ?_⟩) hS ?_
    · clear hW; go_simp
    simp only [Act.put, List.getElem_toArray, List.getElem_cons_succ, List.getElem_cons_zero, List.setIfInBounds_toArray, List.set_cons_zero, List.set_cons_succ]
    refine wpAnyH_take (i := 1) (v := .pointer (some ⟨bw, 0, none⟩)) rfl (by kernel_rfl) (by kernel_rfl) (by kernel_rfl) (fun _ _ _ h => h) (.inl ⟨by rfl, fun W hW => ?_⟩) hS ?_
    · clear hW; go_simp
    simp only [Act.put, List.getElem_toArray, List.getElem_cons_succ, List.getElem_cons_zero, List.setIfInBounds_toArray, List.set_cons_zero, List.set_cons_succ]
    refine wpAnyH_take (i := 2) (v := .string x) rfl (by kernel_rfl) (by kernel_rfl) (by kernel_rfl) (fun _ _ _ h => h) (.inl ⟨by rfl, fun W hW => ?_⟩) hS ?_
    · have d := (chg_cell hW l1 hbg 0).trans d0; clear hW; go_simp
    simp only [Act.put, List.getElem_toArray, List.getElem_cons_succ, List.getElem_cons_zero, List.setIfInBounds_toArray, List.set_cons_zero, List.set_cons_succ]
    refine wpAnyH_take (i := 4) (v := .int .i64 2) rfl (by kernel_rfl) (by kernel_rfl) (by kernel_rfl) (fun _ _ _ h => h) (.inl ⟨by rfl, fun W hW => ?_⟩) hS ?_
    · clear hW; go_simp
    simp only [Act.put, List.getElem_toArray, List.getElem_cons_succ, List.getElem_cons_zero, List.setIfInBounds_toArray, List.set_cons_zero, List.set_cons_succ]
    refine wpAnyH_ready (rs := [3]) (by kernel_rfl) (by simp) (AllReadyH.cons rfl (fun K hK => ?_) AllReadyH.nil)
    refine rl_bslice rfl 53 9 4 _ rfl [(0, .string ⟨#[]⟩), (1, .string ⟨#[114, 101, 115, 116]⟩), (2, .string ⟨#[117, 112]⟩), (3, .string ⟨#[100, 111, 119, 110]⟩)] rfl #[.string ⟨#[]⟩, .string ⟨#[114, 101, 115, 116]⟩, .string ⟨#[117, 112]⟩, .string ⟨#[100, 111, 119, 110]⟩] ie (.string ⟨#[]⟩) Tryd.underlying53 hie hz0 hsm hpo HFill.out (hK.out _ _ (hS.alloc _) (fun hS' => ?_))
    clear hS hK K
    have hS := hS'
    clear hS'
    refine wpAnyH_take (i := 5) (v := .pointer (some ⟨wc.heap.size, 2, none⟩)) rfl (by kernel_rfl) (by kernel_rfl) (by kernel_rfl) (fun _ _ _ h => h) (.inl ⟨by rfl, fun W hW => ?_⟩) hS ?_
    · clear hW; go_simp
    simp only [Act.put, List.getElem_toArray, List.getElem_cons_succ, List.getElem_cons_zero, List.setIfInBounds_toArray, List.set_cons_zero, List.set_cons_succ]
    refine wpAnyH_ready (rs := [6]) (by kernel_rfl) (by simp) (AllReadyH.cons rfl (fun K hK => ?_) AllReadyH.nil)
    have HS := Lib.hid hS
    clear hS
    go_simp
    refine hK.out _ _ HS.out (fun hS => ?_)
    clear HS hK K
    refine wpAnyH_take (i := 7) (v := .bool true) rfl (by kernel_rfl) (by kernel_rfl) (by kernel_rfl) (fun _ _ _ h => h) (.inl ⟨by rfl, fun W hW => ?_⟩) hS ?_
    · clear hW; go_simp
    simp only [Act.put, List.getElem_toArray, List.getElem_cons_succ, List.getElem_cons_zero, List.setIfInBounds_toArray, List.set_cons_zero, List.set_cons_succ]
    refine wpAnyH_take (i := 8) (v := .bool true) rfl (by kernel_rfl) (by kernel_rfl) (by kernel_rfl) (fun _ _ _ h => h) (.inl ⟨by rfl, fun W hW => ?_⟩) hS ?_
    · clear hW; go_simp
    simp only [Act.put, List.getElem_toArray, List.getElem_cons_succ, List.getElem_cons_zero, List.setIfInBounds_toArray, List.set_cons_zero, List.set_cons_succ]
    refine wpAnyH_take (i := 9) (v := undef) rfl (by kernel_rfl) (by kernel_rfl) (by kernel_rfl) (fun _ _ _ h => h) (.inr ⟨by rfl, rfl⟩) hS ?_
    simp only [Act.put, List.getElem_toArray, List.getElem_cons_succ, List.getElem_cons_zero, List.setIfInBounds_toArray, List.set_cons_zero, List.set_cons_succ]
    refine wpAnyH_take (i := 10) (v := undef) rfl (by kernel_rfl) (by kernel_rfl) (by kernel_rfl) (fun _ _ _ h => h) (.inr ⟨by rfl, rfl⟩) hS ?_
    simp only [Act.put, List.getElem_toArray, List.getElem_cons_succ, List.getElem_cons_zero, List.setIfInBounds_toArray, List.set_cons_zero, List.set_cons_succ]
    refine wpAnyH_take (i := 11) (v := .bool true) rfl (by kernel_rfl) (by kernel_rfl) (by kernel_rfl) (fun _ _ _ h => h) (.inl ⟨by rfl, fun W hW => ?_⟩) hS ?_
    · clear hW; go_simp
    simp only [Act.put, List.getElem_toArray, List.getElem_cons_succ, List.getElem_cons_zero, List.setIfInBounds_toArray, List.set_cons_zero, List.set_cons_succ]
    have HS := Lib.hid hS
    clear hS
    refine wpAnyH_done (by kernel_rfl) ?_ _
    go_wp2_with fail
    go_ret
    exact rl_no HL.out (HR.out.below.trans (HS.out.below HR.out.below.size (fun k hk e => by have e2 : k = gp := e; have := HR.out.og; omega)))
set_option maxRecDepth 100000 in
set_option maxHeartbeats 12800000 in
theorem planLine3 (w0 W : World) (gp bw cap : Nat) (v : Value) (pl : Pln) (ws : List ByteArray) (h : RlS w0 W gp v pl) (hw : WdsAt W bw 0 ws) (hbg : bw ≠ gp) (hs : ∀ x ∈ ws, x.size ≤ 1000000) (h0 : 1 ≤ ws.length) (hl : ws.length ≤ 1000001) (hc : ws.length ≤ cap) :
    Calls Tryd.prog 50 #[.pointer (some ⟨gp, 0, none⟩), .int .i64 3, .slice (some ⟨bw, 0, none⟩) ws.length cap] W (RlPost w0 gp 3 pl ws) := by
  obtain ⟨o, hoff⟩ : ∃ o, o = if cap = 1 then 0 else 1 := ⟨_, rfl⟩
  have HWh := Lib.hid (show Calls Tryd.prog 66 #[.slice (some ⟨bw, o, none⟩) (ws.length - 1) (cap - 1), .int .i64 4, .int .i64 7] W (WhsPost W (ws.drop 1) 4) from by
    have hd : WdsAt W bw o (ws.drop 1) := by
      by_cases e : cap = 1
      · rw [List.drop_eq_nil_of_le (by omega)]; rw [if_pos e] at hoff; subst hoff; exact hw.take 0
      · rw [if_neg e] at hoff; subst hoff; have := hw.drop 1; rwa [Nat.zero_add] at this
    have q := refWholes (ws.drop 1) bw o (cap - 1) 4 W hd (fun z hz => hs z (List.mem_of_mem_drop hz)) (by rw [List.length_drop]; omega) (by decide)
    rw [List.length_drop] at q
    exact q)
  have HH := Lib.hid h
  obtain ⟨x, hx⟩ := Tide.get_some ws (show 0 < ws.length by omega)
  have HP := Lib.hid (Tide.pieceAt_get hx)
  have c0 : W.cell? ⟨bw, 0, none⟩ = some (.string x) := hw.cell 0 x hx
  have hbl := hw.lt
  have i1 : (ws.length : Int) ≤ 1000001 := by omega
  have i2 : (0 : Int) < (ws.length : Int) := by omega
  have i3 : 0 < ws.length := by omega
  have i4 : (ws.length : Int) ≤ (cap : Int) := by omega
  obtain ⟨n, hn⟩ : ∃ n, ws.length = n := ⟨_, rfl⟩
  have HN := Lib.hid hn
  obtain ⟨u, hu⟩ : ∃ u, ws.drop 1 = u := ⟨_, rfl⟩
  have HU := Lib.hid hu
  obtain ⟨ie, hie, hz0, hz1⟩ := info_two text_info2
  have hsm : ¬ 4 * ie.size > 2 ^ 24 := by rw [hz1]; decide
  have hpo : ¬ 4 * ie.size = 0 := by rw [hz1]; decide
  have HFill := Lib.hid (show Instr.fill (fun i => some (i * ie.size, ie.size)) ((Array.range (4 * ie.size)).map ((Value.string ⟨#[]⟩).cells[· % (Value.string ⟨#[]⟩).cells.size]!)) [(0, .string ⟨#[]⟩), (1, .string ⟨#[114, 101, 115, 116]⟩), (2, .string ⟨#[117, 112]⟩), (3, .string ⟨#[100, 111, 119, 110]⟩)] = some #[.string ⟨#[]⟩, .string ⟨#[114, 101, 115, 116]⟩, .string ⟨#[117, 112]⟩, .string ⟨#[100, 111, 119, 110]⟩] from by rw [hz1]; exact words_fill)
  rw [hn, hu] at HWh
  rw [hn] at i1 i2 i3 i4 hc ⊢
  clear h hx hw hs h0 hl hn hu hz1
  go_enter Tryd.func50, Tryd.ntmps50
  go_upto_region 14 with fail
  go_cut [9] (fun vn wx => Hid (WhsMid W wx u 4 vn))
  case first =>
    by_cases hcap : cap = 1
    · rw [if_pos hcap] at hoff
      subst hoff hcap
      have hn1 : n = 1 := by omega
      subst hn1
      clear i1 i2 i3 i4 hc
      go_wp2_with fail
      refine HWh.out.mono ?_
      rintro e w1 ⟨vn, rfl, hy, hno, hb⟩
      have HM := Lib.hid (WhsMid.mk hy hno hb)
      clear hy hno hb HWh
      go_wp2_with fail
      go_meet
      exact HM
    · rw [if_neg hcap] at hoff
      subst hoff
      have hc1 : 1 < cap := by omega
      have hc2 : (1 : Int) ≤ (cap : Int) := by omega
      have hc3 : (1 : Int) ≤ (n : Int) := by omega
      go_wp2_with fail
      refine HWh.out.mono ?_
      rintro e w1 ⟨vn, rfl, hy, hno, hb⟩
      have HM := Lib.hid (WhsMid.mk hy hno hb)
      clear hy hno hb HWh
      go_wp2_with fail
      go_meet
      exact HM
  have HM := hcut
  clear hcut HWh hoff
  have HR := Lib.hid (HH.out.next HM.out.below)
  have l1 : bw < wc.heap.size := Nat.lt_of_lt_of_le hbl HM.out.below.size
  have d0 : wc.cell? ⟨bw, 0, none⟩ = some (.string x) := (HM.out.below.cell (p := ⟨bw, 0, none⟩) hbl).trans c0
  clear c0 hbl
  go_upto_region 15 with fail
  by_cases hxw : x = wdDown
  · have e1 : (x.toList == [100, 111, 119, 110]) = true := by subst hxw; rw [ByteArray.toList_eq]; rfl
    have HX := Lib.hid (HP.out.trans hxw)
    clear hxw
    cases hok : wordsOk u 4
    · have hvn := HM.out.no hok
      subst hvn
      have hq := fun w => Lib.run_eql_slice_nil (P := Tryd.prog) w 69 3 none 0 0 0 0 Tryd.underlying69
      have HL := Lib.hid (row_line (i := 3) (p := pl) (ws := ws) (by decide) (by decide) (rowOk_nums (by rw [HU.out]; exact hok)))
      clear hok
      refine wp_region_held_drew (S := fun Wx => Tide.Chg (fun b => b = gp) wc Wx) (by kernel_rfl) (Tide.Chg.refl _ _).drew (fun hS => ?_)
      clear hS
      change wpAnyH _ _ _ _ _ 12 #[false, false, false, false, false, false, false, false, false, false, false, false] _ (World.drew _)
      have hS : Tide.Chg (fun b => b = gp) wc wc.drew := (Tide.Chg.refl _ _).drew
      refine wpAnyH_take (i := 0) (v := .slice (some ⟨bw, 0, none⟩) n cap) rfl (by kernel_rfl) (by kernel_rfl) (by kernel_rfl) (fun _ _ _ h => h) (.inl ⟨by rfl, fun W hW => ?_⟩) hS ?_
      · clear hW; go_simp
      simp only [Act.put, List.getElem_toArray, List.getElem_cons_succ, List.getElem_cons_zero, List.setIfInBounds_toArray, List.set_cons_zero, List.set_cons_succ]
      refine wpAnyH_take (i := 1) (v := .pointer (some ⟨bw, 0, none⟩)) rfl (by kernel_rfl) (by kernel_rfl) (by kernel_rfl) (fun _ _ _ h => h) (.inl ⟨by rfl, fun W hW => ?_⟩) hS ?_
      · clear hW; go_simp
      simp only [Act.put, List.getElem_toArray, List.getElem_cons_succ, List.getElem_cons_zero, List.setIfInBounds_toArray, List.set_cons_zero, List.set_cons_succ]
      refine wpAnyH_take (i := 2) (v := .string x) rfl (by kernel_rfl) (by kernel_rfl) (by kernel_rfl) (fun _ _ _ h => h) (.inl ⟨by rfl, fun W hW => ?_⟩) hS ?_
      · have d := (chg_cell hW l1 hbg 0).trans d0; clear hW; go_simp
      simp only [Act.put, List.getElem_toArray, List.getElem_cons_succ, List.getElem_cons_zero, List.setIfInBounds_toArray, List.set_cons_zero, List.set_cons_succ]
      refine wpAnyH_take (i := 4) (v := .int .i64 3) rfl (by kernel_rfl) (by kernel_rfl) (by kernel_rfl) (fun _ _ _ h => h) (.inl ⟨by rfl, fun W hW => ?_⟩) hS ?_
      · clear hW; go_simp
      simp only [Act.put, List.getElem_toArray, List.getElem_cons_succ, List.getElem_cons_zero, List.setIfInBounds_toArray, List.set_cons_zero, List.set_cons_succ]
      refine wpAnyH_ready (rs := [3]) (by kernel_rfl) (by simp) (AllReadyH.cons rfl (fun K hK => ?_) AllReadyH.nil)
      refine rl_bslice rfl 53 9 4 _ rfl [(0, .string ⟨#[]⟩), (1, .string ⟨#[114, 101, 115, 116]⟩), (2, .string ⟨#[117, 112]⟩), (3, .string ⟨#[100, 111, 119, 110]⟩)] rfl #[.string ⟨#[]⟩, .string ⟨#[114, 101, 115, 116]⟩, .string ⟨#[117, 112]⟩, .string ⟨#[100, 111, 119, 110]⟩] ie (.string ⟨#[]⟩) Tryd.underlying53 hie hz0 hsm hpo HFill.out (hK.out _ _ (hS.alloc _) (fun hS' => ?_))
      clear hS hK K
      have hS := hS'
      clear hS'
      refine wpAnyH_take (i := 5) (v := .pointer (some ⟨wc.heap.size, 3, none⟩)) rfl (by kernel_rfl) (by kernel_rfl) (by kernel_rfl) (fun _ _ _ h => h) (.inl ⟨by rfl, fun W hW => ?_⟩) hS ?_
      · clear hW; go_simp
      simp only [Act.put, List.getElem_toArray, List.getElem_cons_succ, List.getElem_cons_zero, List.setIfInBounds_toArray, List.set_cons_zero, List.set_cons_succ]
      refine wpAnyH_ready (rs := [6]) (by kernel_rfl) (by simp) (AllReadyH.cons rfl (fun K hK => ?_) AllReadyH.nil)
      have HS := Lib.hid hS
      clear hS
      go_simp
      refine hK.out _ _ HS.out (fun hS => ?_)
      clear HS hK K
      refine wpAnyH_take (i := 7) (v := .bool false) rfl (by kernel_rfl) (by kernel_rfl) (by kernel_rfl) (fun _ _ _ h => h) (.inl ⟨by rfl, fun W hW => ?_⟩) hS ?_
      · clear hW; go_simp
      simp only [Act.put, List.getElem_toArray, List.getElem_cons_succ, List.getElem_cons_zero, List.setIfInBounds_toArray, List.set_cons_zero, List.set_cons_succ]
      refine wpAnyH_take (i := 8) (v := .bool false) rfl (by kernel_rfl) (by kernel_rfl) (by kernel_rfl) (fun _ _ _ h => h) (.inl ⟨by rfl, fun W hW => ?_⟩) hS ?_
      · clear hW; go_simp
      simp only [Act.put, List.getElem_toArray, List.getElem_cons_succ, List.getElem_cons_zero, List.setIfInBounds_toArray, List.set_cons_zero, List.set_cons_succ]
      refine wpAnyH_take (i := 9) (v := .slice none 0 0) rfl (by kernel_rfl) (by kernel_rfl) (by kernel_rfl) (fun _ _ _ h => h) (.inl ⟨by rfl, fun W hW => ?_⟩) hS ?_
      · clear hW; go_simp
      simp only [Act.put, List.getElem_toArray, List.getElem_cons_succ, List.getElem_cons_zero, List.setIfInBounds_toArray, List.set_cons_zero, List.set_cons_succ]
      refine wpAnyH_take (i := 10) (v := .bool true) rfl (by kernel_rfl) (by kernel_rfl) (by kernel_rfl) (fun _ _ _ h => h) (.inl ⟨by rfl, fun W hW => ?_⟩) hS ?_
      · clear hW; go_simp
      simp only [Act.put, List.getElem_toArray, List.getElem_cons_succ, List.getElem_cons_zero, List.setIfInBounds_toArray, List.set_cons_zero, List.set_cons_succ]
      refine wpAnyH_take (i := 11) (v := .bool true) rfl (by kernel_rfl) (by kernel_rfl) (by kernel_rfl) (fun _ _ _ h => h) (.inl ⟨by rfl, fun W hW => ?_⟩) hS ?_
      · clear hW; go_simp
      simp only [Act.put, List.getElem_toArray, List.getElem_cons_succ, List.getElem_cons_zero, List.setIfInBounds_toArray, List.set_cons_zero, List.set_cons_succ]
      have HS := Lib.hid hS
      clear hS
      refine wpAnyH_done (by kernel_rfl) ?_ _
      go_wp2_with fail
      go_ret
      exact rl_no HL.out (HR.out.below.trans (HS.out.below HR.out.below.size (fun k hk e => by have e2 : k = gp := e; have := HR.out.og; omega)))
    · obtain ⟨bn, cn, hvn, hbn1, hbn2, hcn⟩ := nums_form (w := W) (w' := wc) (ws := u) (n := 4) (by decide) (words_many hok) (HM.out.yes hok)
      subst hvn
      have hq := fun w => Lib.run_eql_slice_nil (P := Tryd.prog) w 69 3 (some ⟨bn, 0, none⟩) 4 cn 0 0 Tryd.underlying69
      obtain ⟨p', hp', ht', hcs⟩ := rl_cells (i := 3) (by decide) (by decide) (p := pl) (ws := ws) (v := v) (rowOk_yes HX.out (by rw [HU.out]; exact hok))
      have HL := Lib.hid hp'
      have HT := Lib.hid ht'
      have hgl := HH.out.plan.inside
      have l3 : bn ≠ gp := by omega
      obtain ⟨v1, hv1⟩ : ∃ z, wV (Tide.pieceAt u 0) = z := ⟨_, rfl⟩
      obtain ⟨v2, hv2⟩ : ∃ z, wV (Tide.pieceAt u 1) = z := ⟨_, rfl⟩
      obtain ⟨v3, hv3⟩ : ∃ z, wV (Tide.pieceAt u 2) = z := ⟨_, rfl⟩
      obtain ⟨v4, hv4⟩ : ∃ z, wV (Tide.pieceAt u 3) = z := ⟨_, rfl⟩
      have n0 : wc.cell? ⟨bn, 0, none⟩ = some (.int .i64 v1) := by rw [← hv1]; exact hcn 0 (by decide)
      have n1 : wc.cell? ⟨bn, 1, none⟩ = some (.int .i64 v2) := by rw [← hv2]; exact hcn 1 (by decide)
      have n2 : wc.cell? ⟨bn, 2, none⟩ = some (.int .i64 v3) := by rw [← hv3]; exact hcn 2 (by decide)
      have n3 : wc.cell? ⟨bn, 3, none⟩ = some (.int .i64 v4) := by rw [← hv4]; exact hcn 3 (by decide)
      have HE := Lib.hid (show ((((plnC pl v).setIfInBounds 13 (.int .i64 v1)).setIfInBounds 14 (.int .i64 v2)).setIfInBounds 15 (.int .i64 v3)).setIfInBounds 16 (.int .i64 v4) = plnC p' v from by rw [← hv1, ← hv2, ← hv3, ← hv4, ← hcs, HU.out]; rfl)
      clear hp' ht' hcs hok hcn hv1 hv2 hv3 hv4
      refine wp_region_held_drew (S := fun Wx => Tide.Chg (fun b => b = gp) wc Wx) (by kernel_rfl) (Tide.Chg.refl _ _).drew (fun hS => ?_)
      clear hS
      change wpAnyH _ _ _ _ _ 12 #[false, false, false, false, false, false, false, false, false, false, false, false] _ (World.drew _)
      have hS : Tide.Chg (fun b => b = gp) wc wc.drew := (Tide.Chg.refl _ _).drew
      refine wpAnyH_take (i := 0) (v := .slice (some ⟨bw, 0, none⟩) n cap) rfl (by kernel_rfl) (by kernel_rfl) (by kernel_rfl) (fun _ _ _ h => h) (.inl ⟨by rfl, fun W hW => ?_⟩) hS ?_
      · clear hW; go_simp
      simp only [Act.put, List.getElem_toArray, List.getElem_cons_succ, List.getElem_cons_zero, List.setIfInBounds_toArray, List.set_cons_zero, List.set_cons_succ]
      refine wpAnyH_take (i := 1) (v := .pointer (some ⟨bw, 0, none⟩)) rfl (by kernel_rfl) (by kernel_rfl) (by kernel_rfl) (fun _ _ _ h => h) (.inl ⟨by rfl, fun W hW => ?_⟩) hS ?_
      · clear hW; go_simp
      simp only [Act.put, List.getElem_toArray, List.getElem_cons_succ, List.getElem_cons_zero, List.setIfInBounds_toArray, List.set_cons_zero, List.set_cons_succ]
      refine wpAnyH_take (i := 2) (v := .string x) rfl (by kernel_rfl) (by kernel_rfl) (by kernel_rfl) (fun _ _ _ h => h) (.inl ⟨by rfl, fun W hW => ?_⟩) hS ?_
      · have d := (chg_cell hW l1 hbg 0).trans d0; clear hW; go_simp
      simp only [Act.put, List.getElem_toArray, List.getElem_cons_succ, List.getElem_cons_zero, List.setIfInBounds_toArray, List.set_cons_zero, List.set_cons_succ]
      refine wpAnyH_take (i := 4) (v := .int .i64 3) rfl (by kernel_rfl) (by kernel_rfl) (by kernel_rfl) (fun _ _ _ h => h) (.inl ⟨by rfl, fun W hW => ?_⟩) hS ?_
      · clear hW; go_simp
      simp only [Act.put, List.getElem_toArray, List.getElem_cons_succ, List.getElem_cons_zero, List.setIfInBounds_toArray, List.set_cons_zero, List.set_cons_succ]
      refine wpAnyH_ready (rs := [3]) (by kernel_rfl) (by simp) (AllReadyH.cons rfl (fun K hK => ?_) AllReadyH.nil)
      refine rl_bslice rfl 53 9 4 _ rfl [(0, .string ⟨#[]⟩), (1, .string ⟨#[114, 101, 115, 116]⟩), (2, .string ⟨#[117, 112]⟩), (3, .string ⟨#[100, 111, 119, 110]⟩)] rfl #[.string ⟨#[]⟩, .string ⟨#[114, 101, 115, 116]⟩, .string ⟨#[117, 112]⟩, .string ⟨#[100, 111, 119, 110]⟩] ie (.string ⟨#[]⟩) Tryd.underlying53 hie hz0 hsm hpo HFill.out (hK.out _ _ (hS.alloc _) (fun hS' => ?_))
      clear hS hK K
      have hS := hS'
      clear hS'
      refine wpAnyH_take (i := 5) (v := .pointer (some ⟨wc.heap.size, 3, none⟩)) rfl (by kernel_rfl) (by kernel_rfl) (by kernel_rfl) (fun _ _ _ h => h) (.inl ⟨by rfl, fun W hW => ?_⟩) hS ?_
      · clear hW; go_simp
      simp only [Act.put, List.getElem_toArray, List.getElem_cons_succ, List.getElem_cons_zero, List.setIfInBounds_toArray, List.set_cons_zero, List.set_cons_succ]
      refine wpAnyH_ready (rs := [6]) (by kernel_rfl) (by simp) (AllReadyH.cons rfl (fun K hK => ?_) AllReadyH.nil)
      have HS := Lib.hid hS
      clear hS
      go_simp
      refine hK.out _ _ HS.out (fun hS => ?_)
      clear HS hK K
      refine wpAnyH_take (i := 7) (v := .bool false) rfl (by kernel_rfl) (by kernel_rfl) (by kernel_rfl) (fun _ _ _ h => h) (.inl ⟨by rfl, fun W hW => ?_⟩) hS ?_
      · clear hW; go_simp
      simp only [Act.put, List.getElem_toArray, List.getElem_cons_succ, List.getElem_cons_zero, List.setIfInBounds_toArray, List.set_cons_zero, List.set_cons_succ]
      refine wpAnyH_take (i := 8) (v := .bool false) rfl (by kernel_rfl) (by kernel_rfl) (by kernel_rfl) (fun _ _ _ h => h) (.inl ⟨by rfl, fun W hW => ?_⟩) hS ?_
      · clear hW; go_simp
      simp only [Act.put, List.getElem_toArray, List.getElem_cons_succ, List.getElem_cons_zero, List.setIfInBounds_toArray, List.set_cons_zero, List.set_cons_succ]
      refine wpAnyH_take (i := 9) (v := .slice (some ⟨bn, 0, none⟩) 4 cn) rfl (by kernel_rfl) (by kernel_rfl) (by kernel_rfl) (fun _ _ _ h => h) (.inl ⟨by rfl, fun W hW => ?_⟩) hS ?_
      · clear hW; go_simp
      simp only [Act.put, List.getElem_toArray, List.getElem_cons_succ, List.getElem_cons_zero, List.setIfInBounds_toArray, List.set_cons_zero, List.set_cons_succ]
      refine wpAnyH_take (i := 10) (v := .bool false) rfl (by kernel_rfl) (by kernel_rfl) (by kernel_rfl) (fun _ _ _ h => h) (.inl ⟨by rfl, fun W hW => ?_⟩) hS ?_
      · clear hW; go_simp
      simp only [Act.put, List.getElem_toArray, List.getElem_cons_succ, List.getElem_cons_zero, List.setIfInBounds_toArray, List.set_cons_zero, List.set_cons_succ]
      refine wpAnyH_take (i := 11) (v := .bool false) rfl (by kernel_rfl) (by kernel_rfl) (by kernel_rfl) (fun _ _ _ h => h) (.inl ⟨by rfl, fun W hW => ?_⟩) hS ?_
      · clear hW; go_simp
      simp only [Act.put, List.getElem_toArray, List.getElem_cons_succ, List.getElem_cons_zero, List.setIfInBounds_toArray, List.set_cons_zero, List.set_cons_succ]
      have HS := Lib.hid hS
      clear hS
      refine wpAnyH_done (by kernel_rfl) ?_ _
      have HS := Lib.hid (show Tide.Chg (fun b => b = gp) wc (wc.alloc (.cells #[.string ⟨#[]⟩, .string ⟨#[114, 101, 115, 116]⟩, .string ⟨#[117, 112]⟩, .string ⟨#[100, 111, 119, 110]⟩] 9)).drew from HS.out)
      have HR5 := Lib.hid (HR.out.put HS.out (HR.out.plan.chg (Tide.Chg.of_below ((Below.refl _ _).alloc (Nat.le_refl _) _).drew (Nat.le_refl _) : Tide.Chg (fun _ => False) wc _) (fun h => h)) rfl)
      have m0 := (chg_cell HS.out hbn2 l3 0).trans n0
      have m1 := (chg_cell HS.out hbn2 l3 1).trans n1
      have m2 := (chg_cell HS.out hbn2 l3 2).trans n2
      have m3 := (chg_cell HS.out hbn2 l3 3).trans n3
      have l2 := Nat.lt_of_lt_of_le hbn2 HS.out.size
      clear n0 n1 n2 n3 hbn2 hq hbn1 HR HM HS d0 l1 e1 HFill HH
      go_upto_region 23 with fail
      generalize (wc.alloc (.cells #[.string ⟨#[]⟩, .string ⟨#[114, 101, 115, 116]⟩, .string ⟨#[117, 112]⟩, .string ⟨#[100, 111, 119, 110]⟩] 9)).drew = w5 at HR5 m0 m1 m2 m3 l2 ⊢
      have q0 := HR5.out.plan.here (i := 13) rfl
      have q0' := HR5.out.plan.here (i := 13) rfl
      have s0 := HR5.out.plan.soft 13
      have q1' := HR5.out.plan.here (i := 14) rfl
      have s1 := HR5.out.plan.soft 14
      have q2' := HR5.out.plan.here (i := 15) rfl
      have s2 := HR5.out.plan.soft 15
      have q3' := HR5.out.plan.here (i := 16) rfl
      have s3 := HR5.out.plan.soft 16
      clear q0
      refine wp_region_held_drew (S := fun Wx => Tide.Chg (fun b => b = gp) w5 Wx) (by kernel_rfl) (Tide.Chg.refl _ _).drew (fun hS => ?_)
      clear hS
      change wpAnyH _ _ _ _ _ 17 #[false, false, false, false, false, false, false, false, false, false, false, false, false, false, false, false, false] _ (World.drew _)
      have hS : Tide.Chg (fun b => b = gp) w5 w5.drew := (Tide.Chg.refl _ _).drew
      refine wpAnyH_take (i := 0) (v := .pointer (some ⟨gp, 0, none⟩)) rfl (by kernel_rfl) (by kernel_rfl) (by kernel_rfl) (fun _ _ _ h => h) (.inl ⟨by rfl, fun W hW => ?_⟩) hS ?_
      · clear hW; go_simp
      simp only [Act.put, List.getElem_toArray, List.getElem_cons_succ, List.getElem_cons_zero, List.setIfInBounds_toArray, List.set_cons_zero, List.set_cons_succ]
      refine wpAnyH_take (i := 1) (v := .slice (some ⟨bn, 0, none⟩) 4 cn) rfl (by kernel_rfl) (by kernel_rfl) (by kernel_rfl) (fun _ _ _ h => h) (.inl ⟨by rfl, fun W hW => ?_⟩) hS ?_
      · clear hW; go_simp
      simp only [Act.put, List.getElem_toArray, List.getElem_cons_succ, List.getElem_cons_zero, List.setIfInBounds_toArray, List.set_cons_zero, List.set_cons_succ]
      refine wpAnyH_take (i := 2) (v := .pointer (some ⟨bn, 0, none⟩)) rfl (by kernel_rfl) (by kernel_rfl) (by kernel_rfl) (fun _ _ _ h => h) (.inl ⟨by rfl, fun W hW => ?_⟩) hS ?_
      · clear hW; go_simp
      simp only [Act.put, List.getElem_toArray, List.getElem_cons_succ, List.getElem_cons_zero, List.setIfInBounds_toArray, List.set_cons_zero, List.set_cons_succ]
      refine wpAnyH_take (i := 3) (v := .int .i64 v1) rfl (by kernel_rfl) (by kernel_rfl) (by kernel_rfl) (fun _ _ _ h => h) (.inl ⟨by rfl, fun W hW => ?_⟩) hS ?_
      · have d := (chg_cell hW l2 l3 0).trans m0; clear hW; go_simp
      simp only [Act.put, List.getElem_toArray, List.getElem_cons_succ, List.getElem_cons_zero, List.setIfInBounds_toArray, List.set_cons_zero, List.set_cons_succ]
      refine wpAnyH_take (i := 4) (v := .slice (some ⟨bn, 0, none⟩) 4 cn) rfl (by kernel_rfl) (by kernel_rfl) (by kernel_rfl) (fun _ _ _ h => h) (.inl ⟨by rfl, fun W hW => ?_⟩) hS ?_
      · clear hW; go_simp
      simp only [Act.put, List.getElem_toArray, List.getElem_cons_succ, List.getElem_cons_zero, List.setIfInBounds_toArray, List.set_cons_zero, List.set_cons_succ]
      refine wpAnyH_take (i := 5) (v := .pointer (some ⟨bn, 1, none⟩)) rfl (by kernel_rfl) (by kernel_rfl) (by kernel_rfl) (fun _ _ _ h => h) (.inl ⟨by rfl, fun W hW => ?_⟩) hS ?_
      · clear hW; go_simp
      simp only [Act.put, List.getElem_toArray, List.getElem_cons_succ, List.getElem_cons_zero, List.setIfInBounds_toArray, List.set_cons_zero, List.set_cons_succ]
      refine wpAnyH_take (i := 6) (v := .int .i64 v2) rfl (by kernel_rfl) (by kernel_rfl) (by kernel_rfl) (fun _ _ _ h => h) (.inl ⟨by rfl, fun W hW => ?_⟩) hS ?_
      · have d := (chg_cell hW l2 l3 1).trans m1; clear hW; go_simp
      simp only [Act.put, List.getElem_toArray, List.getElem_cons_succ, List.getElem_cons_zero, List.setIfInBounds_toArray, List.set_cons_zero, List.set_cons_succ]
      refine wpAnyH_take (i := 7) (v := .slice (some ⟨bn, 0, none⟩) 4 cn) rfl (by kernel_rfl) (by kernel_rfl) (by kernel_rfl) (fun _ _ _ h => h) (.inl ⟨by rfl, fun W hW => ?_⟩) hS ?_
      · clear hW; go_simp
      simp only [Act.put, List.getElem_toArray, List.getElem_cons_succ, List.getElem_cons_zero, List.setIfInBounds_toArray, List.set_cons_zero, List.set_cons_succ]
      refine wpAnyH_take (i := 8) (v := .pointer (some ⟨bn, 2, none⟩)) rfl (by kernel_rfl) (by kernel_rfl) (by kernel_rfl) (fun _ _ _ h => h) (.inl ⟨by rfl, fun W hW => ?_⟩) hS ?_
      · clear hW; go_simp
      simp only [Act.put, List.getElem_toArray, List.getElem_cons_succ, List.getElem_cons_zero, List.setIfInBounds_toArray, List.set_cons_zero, List.set_cons_succ]
      refine wpAnyH_take (i := 9) (v := .int .i64 v3) rfl (by kernel_rfl) (by kernel_rfl) (by kernel_rfl) (fun _ _ _ h => h) (.inl ⟨by rfl, fun W hW => ?_⟩) hS ?_
      · have d := (chg_cell hW l2 l3 2).trans m2; clear hW; go_simp
      simp only [Act.put, List.getElem_toArray, List.getElem_cons_succ, List.getElem_cons_zero, List.setIfInBounds_toArray, List.set_cons_zero, List.set_cons_succ]
      refine wpAnyH_take (i := 10) (v := .slice (some ⟨bn, 0, none⟩) 4 cn) rfl (by kernel_rfl) (by kernel_rfl) (by kernel_rfl) (fun _ _ _ h => h) (.inl ⟨by rfl, fun W hW => ?_⟩) hS ?_
      · clear hW; go_simp
      simp only [Act.put, List.getElem_toArray, List.getElem_cons_succ, List.getElem_cons_zero, List.setIfInBounds_toArray, List.set_cons_zero, List.set_cons_succ]
      refine wpAnyH_take (i := 11) (v := .pointer (some ⟨bn, 3, none⟩)) rfl (by kernel_rfl) (by kernel_rfl) (by kernel_rfl) (fun _ _ _ h => h) (.inl ⟨by rfl, fun W hW => ?_⟩) hS ?_
      · clear hW; go_simp
      simp only [Act.put, List.getElem_toArray, List.getElem_cons_succ, List.getElem_cons_zero, List.setIfInBounds_toArray, List.set_cons_zero, List.set_cons_succ]
      refine wpAnyH_take (i := 12) (v := .int .i64 v4) rfl (by kernel_rfl) (by kernel_rfl) (by kernel_rfl) (fun _ _ _ h => h) (.inl ⟨by rfl, fun W hW => ?_⟩) hS ?_
      · have d := (chg_cell hW l2 l3 3).trans m3; clear hW; go_simp
      simp only [Act.put, List.getElem_toArray, List.getElem_cons_succ, List.getElem_cons_zero, List.setIfInBounds_toArray, List.set_cons_zero, List.set_cons_succ]
      refine wpAnyH_take (i := 13) (v := .agg #[.int .i64 v1, .int .i64 v2, .int .i64 v3, .int .i64 v4]) rfl (by kernel_rfl) (by kernel_rfl) (by kernel_rfl) (fun _ _ _ h => h) (.inl ⟨by rfl, fun W hW => ?_⟩) hS ?_
      · exact rl_exec_built rfl rfl (pace_built v1 v2 v3 v4)
      simp only [Act.put, List.getElem_toArray, List.getElem_cons_succ, List.getElem_cons_zero, List.setIfInBounds_toArray, List.set_cons_zero, List.set_cons_succ]
      refine wpAnyH_take (i := 14) (v := .pointer (some ⟨gp, 0, none⟩)) rfl (by kernel_rfl) (by kernel_rfl) (by kernel_rfl) (fun _ _ _ h => h) (.inl ⟨by rfl, fun W hW => ?_⟩) hS ?_
      · clear hW; go_simp
      simp only [Act.put, List.getElem_toArray, List.getElem_cons_succ, List.getElem_cons_zero, List.setIfInBounds_toArray, List.set_cons_zero, List.set_cons_succ]
      refine wpAnyH_take (i := 15) (v := .pointer (some ⟨gp, 13, none⟩)) rfl (by kernel_rfl) (by kernel_rfl) (by kernel_rfl) (fun _ _ _ h => h) (.inl ⟨by rfl, fun W hW => ?_⟩) hS ?_
      · clear hW; go_simp
      simp only [Act.put, List.getElem_toArray, List.getElem_cons_succ, List.getElem_cons_zero, List.setIfInBounds_toArray, List.set_cons_zero, List.set_cons_succ]
      refine wpAnyH_ready (rs := [16]) (by kernel_rfl) (by simp) (AllReadyH.cons rfl (fun K hK => ?_) AllReadyH.nil)
      refine rl_store_mid rfl 39 (.tmp 155) (.tmp 153) rfl gp 13 #[.int .i64 v1, .int .i64 v2, .int .i64 v3, .int .i64 v4] rfl rfl (rl_there HR5.out.plan.drew (by show 13 + 4 ≤ 18; decide)) (by kernel_rfl) (by kernel_rfl) (hK.out _ _ ((((hS.put (p := ⟨gp, 13, none⟩) (.inl rfl) _).put (p := ⟨gp, 14, none⟩) (.inl rfl) _).put (p := ⟨gp, 15, none⟩) (.inl rfl) _).put (p := ⟨gp, 16, none⟩) (.inl rfl) _) (fun hS' => ?_))
      clear hS hK K
      have hS := hS'
      clear hS'
      have HS := Lib.hid hS
      clear hS
      refine wpAnyH_done (by kernel_rfl) ?_ _
      go_wp2_with fail
      go_ret
      exact rl_yes HL.out (HR5.out.put HS.out (by rw [← HE.out]; exact ((((HR5.out.plan.drew).put 13 _).put 14 _).put 15 _).put 16 _) HT.out)
  · have e1 : (x.toList == [100, 111, 119, 110]) = false := by
      have q := same_words x wdDown
      rw [decide_eq_false hxw, show wdDown.toList = [100, 111, 119, 110] by rw [ByteArray.toList_eq]; rfl] at q
      exact q
    have HL := Lib.hid (row_line (i := 3) (p := pl) (ws := ws) (by decide) (by decide) (rowOk_word (by rw [HP.out]; exact hxw)))
    clear hxw
    refine wp_region_held_drew (S := fun Wx => Tide.Chg (fun b => b = gp) wc Wx) (by kernel_rfl) (Tide.Chg.refl _ _).drew (fun hS => ?_)
    clear hS
    change wpAnyH _ _ _ _ _ 12 #[false, false, false, false, false, false, false, false, false, false, false, false] _ (World.drew _)
    have hS : Tide.Chg (fun b => b = gp) wc wc.drew := (Tide.Chg.refl _ _).drew
    refine wpAnyH_take (i := 0) (v := .slice (some ⟨bw, 0, none⟩) n cap) rfl (by kernel_rfl) (by kernel_rfl) (by kernel_rfl) (fun _ _ _ h => h) (.inl ⟨by rfl, fun W hW => ?_⟩) hS ?_
    · clear hW; go_simp
    simp only [Act.put, List.getElem_toArray, List.getElem_cons_succ, List.getElem_cons_zero, List.setIfInBounds_toArray, List.set_cons_zero, List.set_cons_succ]
    refine wpAnyH_take (i := 1) (v := .pointer (some ⟨bw, 0, none⟩)) rfl (by kernel_rfl) (by kernel_rfl) (by kernel_rfl) (fun _ _ _ h => h) (.inl ⟨by rfl, fun W hW => ?_⟩) hS ?_
    · clear hW; go_simp
    simp only [Act.put, List.getElem_toArray, List.getElem_cons_succ, List.getElem_cons_zero, List.setIfInBounds_toArray, List.set_cons_zero, List.set_cons_succ]
    refine wpAnyH_take (i := 2) (v := .string x) rfl (by kernel_rfl) (by kernel_rfl) (by kernel_rfl) (fun _ _ _ h => h) (.inl ⟨by rfl, fun W hW => ?_⟩) hS ?_
    · have d := (chg_cell hW l1 hbg 0).trans d0; clear hW; go_simp
    simp only [Act.put, List.getElem_toArray, List.getElem_cons_succ, List.getElem_cons_zero, List.setIfInBounds_toArray, List.set_cons_zero, List.set_cons_succ]
    refine wpAnyH_take (i := 4) (v := .int .i64 3) rfl (by kernel_rfl) (by kernel_rfl) (by kernel_rfl) (fun _ _ _ h => h) (.inl ⟨by rfl, fun W hW => ?_⟩) hS ?_
    · clear hW; go_simp
    simp only [Act.put, List.getElem_toArray, List.getElem_cons_succ, List.getElem_cons_zero, List.setIfInBounds_toArray, List.set_cons_zero, List.set_cons_succ]
    refine wpAnyH_ready (rs := [3]) (by kernel_rfl) (by simp) (AllReadyH.cons rfl (fun K hK => ?_) AllReadyH.nil)
    refine rl_bslice rfl 53 9 4 _ rfl [(0, .string ⟨#[]⟩), (1, .string ⟨#[114, 101, 115, 116]⟩), (2, .string ⟨#[117, 112]⟩), (3, .string ⟨#[100, 111, 119, 110]⟩)] rfl #[.string ⟨#[]⟩, .string ⟨#[114, 101, 115, 116]⟩, .string ⟨#[117, 112]⟩, .string ⟨#[100, 111, 119, 110]⟩] ie (.string ⟨#[]⟩) Tryd.underlying53 hie hz0 hsm hpo HFill.out (hK.out _ _ (hS.alloc _) (fun hS' => ?_))
    clear hS hK K
    have hS := hS'
    clear hS'
    refine wpAnyH_take (i := 5) (v := .pointer (some ⟨wc.heap.size, 3, none⟩)) rfl (by kernel_rfl) (by kernel_rfl) (by kernel_rfl) (fun _ _ _ h => h) (.inl ⟨by rfl, fun W hW => ?_⟩) hS ?_
    · clear hW; go_simp
    simp only [Act.put, List.getElem_toArray, List.getElem_cons_succ, List.getElem_cons_zero, List.setIfInBounds_toArray, List.set_cons_zero, List.set_cons_succ]
    refine wpAnyH_ready (rs := [6]) (by kernel_rfl) (by simp) (AllReadyH.cons rfl (fun K hK => ?_) AllReadyH.nil)
    have HS := Lib.hid hS
    clear hS
    go_simp
    refine hK.out _ _ HS.out (fun hS => ?_)
    clear HS hK K
    refine wpAnyH_take (i := 7) (v := .bool true) rfl (by kernel_rfl) (by kernel_rfl) (by kernel_rfl) (fun _ _ _ h => h) (.inl ⟨by rfl, fun W hW => ?_⟩) hS ?_
    · clear hW; go_simp
    simp only [Act.put, List.getElem_toArray, List.getElem_cons_succ, List.getElem_cons_zero, List.setIfInBounds_toArray, List.set_cons_zero, List.set_cons_succ]
    refine wpAnyH_take (i := 8) (v := .bool true) rfl (by kernel_rfl) (by kernel_rfl) (by kernel_rfl) (fun _ _ _ h => h) (.inl ⟨by rfl, fun W hW => ?_⟩) hS ?_
    · clear hW; go_simp
    simp only [Act.put, List.getElem_toArray, List.getElem_cons_succ, List.getElem_cons_zero, List.setIfInBounds_toArray, List.set_cons_zero, List.set_cons_succ]
    refine wpAnyH_take (i := 9) (v := undef) rfl (by kernel_rfl) (by kernel_rfl) (by kernel_rfl) (fun _ _ _ h => h) (.inr ⟨by rfl, rfl⟩) hS ?_
    simp only [Act.put, List.getElem_toArray, List.getElem_cons_succ, List.getElem_cons_zero, List.setIfInBounds_toArray, List.set_cons_zero, List.set_cons_succ]
    refine wpAnyH_take (i := 10) (v := undef) rfl (by kernel_rfl) (by kernel_rfl) (by kernel_rfl) (fun _ _ _ h => h) (.inr ⟨by rfl, rfl⟩) hS ?_
    simp only [Act.put, List.getElem_toArray, List.getElem_cons_succ, List.getElem_cons_zero, List.setIfInBounds_toArray, List.set_cons_zero, List.set_cons_succ]
    refine wpAnyH_take (i := 11) (v := .bool true) rfl (by kernel_rfl) (by kernel_rfl) (by kernel_rfl) (fun _ _ _ h => h) (.inl ⟨by rfl, fun W hW => ?_⟩) hS ?_
    · clear hW; go_simp
    simp only [Act.put, List.getElem_toArray, List.getElem_cons_succ, List.getElem_cons_zero, List.setIfInBounds_toArray, List.set_cons_zero, List.set_cons_succ]
    have HS := Lib.hid hS
    clear hS
    refine wpAnyH_done (by kernel_rfl) ?_ _
    go_wp2_with fail
    go_ret
    exact rl_no HL.out (HR.out.below.trans (HS.out.below HR.out.below.size (fun k hk e => by have e2 : k = gp := e; have := HR.out.og; omega)))
end Go.Proofs.YthelnkoohbnjpaaDoor
