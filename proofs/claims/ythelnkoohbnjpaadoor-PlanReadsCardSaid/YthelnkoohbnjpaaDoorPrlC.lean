/- The reference's planLine at a line of a trigger. -/
import Derived.Test.YthelnkoohbnjpaaDoorPrlB
import Derived.Test.YthelnkoohbnjpaaDoorPrdV
import Derived.Test.YthelnkoohbnjpaaDoorRdjO
import Derived.Test.YthelnkoohbnjpaaDoorRdrC
import Derived.WalkSpells
set_option linter.unusedVariables false
set_option linter.unusedSimpArgs false
namespace Go.Proofs.YthelnkoohbnjpaaDoor
open Go.RowKit
set_option linter.unusedVariables false
/-- a cron that was read, in its block -/
structure SpB (w wx : World) (gb : Nat) (c : Cr) : Prop where
  at_ : Tide.At wx gb 24 c.cells
  below : Below w.heap.size w wx
  new : w.heap.size ≤ gb
/-- behind the question which trigger it is -/
structure RlMid (w0 wx : World) (gp gt : Nat) (v : Value) (pl : Pln) (ws : List ByteArray) : Prop where
  at_ : ∃ t, Tide.At wx gt 82 (trgA t) ∧ trigN ws = some t
  st : RlS w0 wx gp v pl
theorem rl_chg (w : World) (g : Nat) (cs : Array Value) : Tide.Chg (fun b => b = g) w (w.setRow g cs) := ⟨rfl, rfl, rfl, by rw [setRow_size]; exact Nat.le_refl _, fun k hk hs => setRow_other w g k cs (fun e => hs e)⟩
theorem rl_exec_load {P : Program} {ev : Operand → Value} {o : Oper} {ty t : TypeId} {x : Operand} {g : Nat} {cs : Array Value} {d : TypeDesc} {W : World} (ho : o.op = .load ty x) (hx : ev x = .pointer (some ⟨g, 0, none⟩)) (hg : W.heap[g]? = some (.cells cs t (0, 0)))
    (hu : P.underlying ty = some d) (hd : (match d with | .struct _ | .array _ _ => true | _ => false) = true) (hi : (P.info? ty).map (·.size) = some cs.size) : (execOp ev o).run P W = .ok (.value (.agg cs)) W := by
  unfold execOp
  simp only [ho, hx, Instr.loadAt, Instr.sureAddr, Sem.run_bind, Sem.run_pure, Result.andThen_ok, run_loadVar_row W g t ty cs (0, 0) d hg hu hd hi]
theorem one_word (y : ByteArray) : wordsOk [y] 1 = wOk y := by unfold wordsOk; simp
theorem rl_none {i : Nat} {p : Pln} {ws : List ByteArray} (h4 : 4 ≤ i) (h : trigN ws = none) : lineN i p ws = none := by rw [line_more h4, h]; rfl
theorem two_none {kind : Int} {ws : List ByteArray} (h : wordsOk (ws.drop 1) 2 = false) : twoN kind ws = none := if_neg (by rw [h]; simp)
theorem two_some {kind : Int} {ws : List ByteArray} (h : wordsOk (ws.drop 1) 2 = true) : twoN kind ws = some ⟨kind, wV (Tide.pieceAt ws 1), wV (Tide.pieceAt ws 2), crZ, crZ⟩ := if_pos h
theorem trig_built2 (a b : Int) : Tryd.prog.built 82 [(0, .int .i64 2), (1, .int .i64 a), (2, .int .i64 b)] = some (trgA ⟨2, a, b, crZ, crZ⟩) := by kernel_rfl
theorem span_built (a b : Cr) : Tryd.prog.built 80 [(0, .agg a.cells), (1, .agg b.cells)] = some (a.cells ++ b.cells) := by kernel_rfl
theorem trig_built3 (n : Int) (a b : Cr) : Tryd.prog.built 82 [(0, .int .i64 3), (1, .int .i64 n), (3, .agg (a.cells ++ b.cells))] = some (trgA ⟨3, n, 0, a, b⟩) := by kernel_rfl
theorem RlS.trigPut {w0 W W' : World} {gp gt : Nat} {v : Value} {pl : Pln} (h : RlS w0 W gp v pl) (hc : Tide.Chg (fun b => b = gt) W W') (h1 : gt ≠ gp) (h2 : w0.heap.size ≤ gt) (h3 : ∀ b, v.ownBlock = some b → b ≠ gt) : RlS w0 W' gp v pl :=
  ⟨h.plan.chg hc (fun e => h1 e.symm), by
    refine ⟨h.own.1, ?_⟩
    rcases h.own.2 with hn | ⟨g, cap, e, hS, h4, h5, h6⟩
    · exact .inl hn
    · exact .inr ⟨g, cap, e, hS, h4, h5, h6.chg hc (h3 g (by rw [e]; rfl))⟩, h.below.trans (hc.below h.below.size (fun k hk e => by have e2 : k = gt := e; omega)), h.og⟩
theorem refReadCr (s : ByteArray) (c : Cr) (hc : crV s = c) (w : World) : Calls Tryd.prog 10 #[.string s] w fun e w' => e = .returned (.tuple #[.agg c.cells, .int .i64 (Tide.cronCode s)]) ∧ Below w.heap.size w w' := by
  refine (refReadCron s w).mono ?_
  rintro e w' ⟨he, hb⟩
  rw [cronV_is, hc] at he
  exact ⟨he, hb⟩
set_option maxRecDepth 100000 in
set_option maxHeartbeats 25600000 in
theorem planLine4 (w0 W : World) (gp bw cap i : Nat) (v : Value) (pl : Pln) (ws : List ByteArray) (h : RlS w0 W gp v pl) (h4 : 4 ≤ i) (hi : i ≤ 100000) (hw : WdsAt W bw 0 ws) (hbg : bw ≠ gp) (hs : ∀ x ∈ ws, x.size ≤ 1000000) (h0 : 1 ≤ ws.length) (hl : ws.length ≤ 1000001) (hc : ws.length ≤ cap) (hm : pl.trigs.length ≤ 100000) :
    Calls Tryd.prog 50 #[.pointer (some ⟨gp, 0, none⟩), .int .i64 (i : Int), .slice (some ⟨bw, 0, none⟩) ws.length cap] W (RlPost w0 gp i pl ws) := by
  have HLm := Lib.hid (line_more (p := pl) (ws := ws) h4)
  have HLn := Lib.hid (fun h => rl_none (p := pl) (ws := ws) h4 h)
  have HM := Lib.hid hm
  obtain ⟨x, hx⟩ := Tide.get_some ws (show 0 < ws.length by omega)
  have HPx := Lib.hid (Tide.pieceAt_get hx)
  have hnew := (Below.refl W.heap.size W).alloc (Nat.le_refl _) (.cells #[.int .i64 0, .int .i64 0, .int .i64 0, .int .u64 0, .int .u64 0, .int .u64 0, .int .u64 0, .int .u64 0, .bool false, .bool false, .int .u64 0, .int .u64 0, .int .u64 0, .int .u64 0, .int .u64 0, .bool false, .bool false] 82)
  have HT2 := Lib.hid (show Tide.At (W.alloc (.cells #[.int .i64 0, .int .i64 0, .int .i64 0, .int .u64 0, .int .u64 0, .int .u64 0, .int .u64 0, .int .u64 0, .bool false, .bool false, .int .u64 0, .int .u64 0, .int .u64 0, .int .u64 0, .int .u64 0, .bool false, .bool false] 82)) W.heap.size 82 (trgA zeroT) from Tide.At.made W 82 (trgA zeroT))
  have HW2 := Lib.hid (hw.below hnew)
  have HR2 := Lib.hid (h.next hnew)
  have nwt : bw ≠ W.heap.size := by have := hw.lt; omega
  have npt : W.heap.size ≠ gp := by have := h.plan.inside; omega
  have HOb := Lib.hid (show ∀ b, v.ownBlock = some b → b ≠ W.heap.size from fun b hb => by have := (h.own.block b hb).2; omega)
  have hg0 : w0.heap.size ≤ W.heap.size := h.below.size
  have HSz := Lib.hid hs
  have c0 : (W.alloc (.cells #[.int .i64 0, .int .i64 0, .int .i64 0, .int .u64 0, .int .u64 0, .int .u64 0, .int .u64 0, .int .u64 0, .bool false, .bool false, .int .u64 0, .int .u64 0, .int .u64 0, .int .u64 0, .int .u64 0, .bool false, .bool false] 82)).cell? ⟨bw, 0, none⟩ = some (.string x) := HW2.out.cell 0 x hx
  have z0 : ((i : Int) == 0) = false := by simp; omega
  have z1 : ((i : Int) == 1) = false := by simp; omega
  have z2 : ((i : Int) == 2) = false := by simp; omega
  have z3 : ((i : Int) == 3) = false := by simp; omega
  obtain ⟨n, hn⟩ : ∃ n, ws.length = n := ⟨_, rfl⟩
  have HN := Lib.hid hn
  rw [hn] at h0 hl hc ⊢
  have i1 : (n : Int) ≤ 1000001 := by omega
  have i2 : (0 : Int) < (n : Int) := by omega
  have i3 : (n : Int) ≤ (cap : Int) := by omega
  have i5 : 0 < n := h0
  clear h hx hw hs hnew hn hm
  go_enter Tryd.func50, Tryd.ntmps50
  go_upto_region 26 with fail
  generalize W.alloc (.cells #[.int .i64 0, .int .i64 0, .int .i64 0, .int .u64 0, .int .u64 0, .int .u64 0, .int .u64 0, .int .u64 0, .bool false, .bool false, .int .u64 0, .int .u64 0, .int .u64 0, .int .u64 0, .int .u64 0, .bool false, .bool false] 82) = W2 at HT2 HW2 HR2 c0 ⊢
  generalize W.heap.size = gt at HT2 nwt npt HOb hg0 ⊢
  clear z0 z1 z2 z3 h4 hi
  go_upto_block 2 with fail
  go_cut [10] (fun y wx => y = .pointer (some ⟨gt, 0, none⟩) ∧ Hid (RlMid w0 wx gp gt v pl ws))
  case first =>
    by_cases hxlag : x = wdLag
    · skip
      have e1 : (x.toList == [108, 97, 103]) = true := word_eq (by rw [ByteArray.toList_eq]; rfl) hxlag
      have HTr := Lib.hid (trig_lag (ws := ws) (HPx.out.trans hxlag))
      clear hxlag
      obtain ⟨o, hoff⟩ : ∃ o, o = if cap = 1 then 0 else 1 := ⟨_, rfl⟩
      have HWh := Lib.hid (show Calls Tryd.prog 66 #[.slice (some ⟨bw, o, none⟩) (n - 1) (cap - 1), .int .i64 2, .int .i64 7] W2 (WhsPost W2 (ws.drop 1) 2) from by
        have hd : WdsAt W2 bw o (ws.drop 1) := by
          by_cases e : cap = 1
          · rw [List.drop_eq_nil_of_le (by have := HN.out; omega)]; rw [if_pos e] at hoff; subst hoff; exact HW2.out.take 0
          · rw [if_neg e] at hoff; subst hoff; have := HW2.out.drop 1; rwa [Nat.zero_add] at this
        have q := refWholes (ws.drop 1) bw o (cap - 1) 2 W2 hd (fun z hz => HSz.out z (List.mem_of_mem_drop hz)) (by rw [List.length_drop]; have := HN.out; omega) (by decide)
        rw [List.length_drop, HN.out] at q
        exact q)
      go_upto_region 30 with fail
      go_cut [11] (fun vn wx => Hid (WhsMid W2 wx (ws.drop 1) 2 vn))
      case first =>
        by_cases hcap : cap = 1
        · rw [if_pos hcap] at hoff
          subst hoff hcap
          have hn1 : n = 1 := by omega
          subst hn1
          clear i1 i2 i3 h0 hl hc
          go_wp2_with fail
          refine HWh.out.mono ?_
          rintro e w1 ⟨vn, rfl, hy, hno, hb⟩
          have HMi := Lib.hid (WhsMid.mk hy hno hb)
          clear hy hno hb HWh
          go_wp2_with fail
          go_meet
          exact HMi
        · rw [if_neg hcap] at hoff
          subst hoff
          have hc1 : 1 < cap := by omega
          have hc2 : (1 : Int) ≤ (cap : Int) := by omega
          have hc3 : (1 : Int) ≤ (n : Int) := by omega
          go_wp2_with fail
          refine HWh.out.mono ?_
          rintro e w1 ⟨vn, rfl, hy, hno, hb⟩
          have HMi := Lib.hid (WhsMid.mk hy hno hb)
          clear hy hno hb HWh
          go_wp2_with fail
          go_meet
          exact HMi
      have HMi := hcut
      clear hcut HWh hoff
      rename World => w3
      have HR3 := Lib.hid (HR2.out.next HMi.out.below)
      have HT3 := Lib.hid (HT2.out.below HMi.out.below HT2.out.inside)
      have l1 : bw < w3.heap.size := Nat.lt_of_lt_of_le HW2.out.lt HMi.out.below.size
      have d0 : w3.cell? ⟨bw, 0, none⟩ = some (.string x) := (HMi.out.below.cell (p := ⟨bw, 0, none⟩) HW2.out.lt).trans c0
      cases hok : wordsOk (ws.drop 1) 2
      · have hvn := HMi.out.no hok
        subst hvn
        have hq := fun w => Lib.run_eql_slice_nil (P := Tryd.prog) w 69 3 none 0 0 0 0 Tryd.underlying69
        have HF := Lib.hid (rl_no (w' := w3) (gp := gp) (HLn.out (by rw [HTr.out]; exact two_none hok)) HR3.out.below)
        clear hok
        go_wp2_with fail
        go_ret
        exact HF.out
      · obtain ⟨bn, cn, hvn, hbn1, hbn2, hcn⟩ := nums_form (w := W2) (w' := w3) (ws := ws.drop 1) (n := 2) (by decide) (words_many hok) (HMi.out.yes hok)
        subst hvn
        have hq := fun w => Lib.run_eql_slice_nil (P := Tryd.prog) w 69 3 (some ⟨bn, 0, none⟩) 2 cn 0 0 Tryd.underlying69
        obtain ⟨v1, hv1⟩ : ∃ z, wV (Tide.pieceAt ws 1) = z := ⟨_, rfl⟩
        obtain ⟨v2, hv2⟩ : ∃ z, wV (Tide.pieceAt ws 2) = z := ⟨_, rfl⟩
        have n0 : w3.cell? ⟨bn, 0, none⟩ = some (.int .i64 v1) := by have q := hcn 0 (by decide); rw [piece_drop, hv1] at q; exact q
        have n1 : w3.cell? ⟨bn, 1, none⟩ = some (.int .i64 v2) := by have q := hcn 1 (by decide); rw [piece_drop, hv2] at q; exact q
        have HL := Lib.hid (show trigN ws = some ⟨1, v1, v2, crZ, crZ⟩ by rw [HTr.out, two_some hok, hv1, hv2])
        have l3 : bn ≠ gt := by have := HT2.out.inside; omega
        clear hok hcn hv1 hv2 hbn1
        go_upto_region 33 with fail
        refine wp_region_held_drew (S := fun Wx => Tide.Chg (fun b => b = gt) w3 Wx) (by kernel_rfl) (Tide.Chg.refl _ _).drew (fun hS => ?_)
        clear hS
        change wpAnyH _ _ _ _ _ 8 #[false, false, false, false, false, false, false, false] _ (World.drew _)
        have hS : Tide.Chg (fun b => b = gt) w3 w3.drew := (Tide.Chg.refl _ _).drew
        refine wpAnyH_take (i := 0) (v := .slice (some ⟨bn, 0, none⟩) 2 cn) rfl (by kernel_rfl) (by kernel_rfl) (by kernel_rfl) (fun _ _ _ h => h) (.inl ⟨by rfl, fun W hW => ?_⟩) hS ?_
        · clear hW; go_simp
        simp only [Act.put, List.getElem_toArray, List.getElem_cons_succ, List.getElem_cons_zero, List.setIfInBounds_toArray, List.set_cons_zero, List.set_cons_succ]
        refine wpAnyH_take (i := 1) (v := .pointer (some ⟨bn, 0, none⟩)) rfl (by kernel_rfl) (by kernel_rfl) (by kernel_rfl) (fun _ _ _ h => h) (.inl ⟨by rfl, fun W hW => ?_⟩) hS ?_
        · clear hW; go_simp
        simp only [Act.put, List.getElem_toArray, List.getElem_cons_succ, List.getElem_cons_zero, List.setIfInBounds_toArray, List.set_cons_zero, List.set_cons_succ]
        refine wpAnyH_take (i := 2) (v := .int .i64 v1) rfl (by kernel_rfl) (by kernel_rfl) (by kernel_rfl) (fun _ _ _ h => h) (.inl ⟨by rfl, fun W hW => ?_⟩) hS ?_
        · have d := (chg_cell hW hbn2 l3 0).trans n0; clear hW; go_simp
        simp only [Act.put, List.getElem_toArray, List.getElem_cons_succ, List.getElem_cons_zero, List.setIfInBounds_toArray, List.set_cons_zero, List.set_cons_succ]
        refine wpAnyH_take (i := 3) (v := .slice (some ⟨bn, 0, none⟩) 2 cn) rfl (by kernel_rfl) (by kernel_rfl) (by kernel_rfl) (fun _ _ _ h => h) (.inl ⟨by rfl, fun W hW => ?_⟩) hS ?_
        · clear hW; go_simp
        simp only [Act.put, List.getElem_toArray, List.getElem_cons_succ, List.getElem_cons_zero, List.setIfInBounds_toArray, List.set_cons_zero, List.set_cons_succ]
        refine wpAnyH_take (i := 4) (v := .pointer (some ⟨bn, 1, none⟩)) rfl (by kernel_rfl) (by kernel_rfl) (by kernel_rfl) (fun _ _ _ h => h) (.inl ⟨by rfl, fun W hW => ?_⟩) hS ?_
        · clear hW; go_simp
        simp only [Act.put, List.getElem_toArray, List.getElem_cons_succ, List.getElem_cons_zero, List.setIfInBounds_toArray, List.set_cons_zero, List.set_cons_succ]
        refine wpAnyH_take (i := 5) (v := .int .i64 v2) rfl (by kernel_rfl) (by kernel_rfl) (by kernel_rfl) (fun _ _ _ h => h) (.inl ⟨by rfl, fun W hW => ?_⟩) hS ?_
        · have d := (chg_cell hW hbn2 l3 1).trans n1; clear hW; go_simp
        simp only [Act.put, List.getElem_toArray, List.getElem_cons_succ, List.getElem_cons_zero, List.setIfInBounds_toArray, List.set_cons_zero, List.set_cons_succ]
        refine wpAnyH_take (i := 6) (v := .agg (trgA ⟨2, v1, v2, crZ, crZ⟩)) rfl (by kernel_rfl) (by kernel_rfl) (by kernel_rfl) (fun _ _ _ h => h) (.inl ⟨by rfl, fun W hW => ?_⟩) hS ?_
        · exact rl_exec_built rfl rfl (trig_built2 v1 v2)
        simp only [Act.put, List.getElem_toArray, List.getElem_cons_succ, List.getElem_cons_zero, List.setIfInBounds_toArray, List.set_cons_zero, List.set_cons_succ]
        refine wpAnyH_ready (rs := [7]) (by kernel_rfl) (by simp) (AllReadyH.cons rfl (fun K hK => ?_) AllReadyH.nil)
        refine rl_store_row rfl 82 (.tmp 10) (.tmp 173) rfl gt (trgA ⟨2, v1, v2, crZ, crZ⟩) rfl rfl 82 (trgA zeroT) HT3.out.drew (by kernel_rfl) rfl (by kernel_rfl) (hK.out _ _ (hS.step (rl_chg _ gt _) (fun g hg => .inl hg)) (fun hS' => ?_))
        clear hS hK K
        have HT4 := Lib.hid (rl_set HT3.out.drew (trgA ⟨2, v1, v2, crZ, crZ⟩))
        have HS := Lib.hid hS'
        clear hS'
        refine wpAnyH_done (by kernel_rfl) ?_ _
        have HR4 := Lib.hid (HR3.out.trigPut HS.out npt hg0 HOb.out)
        have e0 := (chg_cell HS.out l1 nwt 0).trans d0
        generalize (World.drew w3).setRow gt (trgA ⟨2, v1, v2, crZ, crZ⟩) = w5 at HT4 HR4 HS e0 ⊢
        have t0 : w5.cell? ⟨gt, 0, none⟩ = some (.int .i64 2) := HT4.out.here rfl
        have s0 := HT4.out.soft 0
        clear n0 n1 hq HS d0 c0
        have HMd := Lib.hid (RlMid.mk (w0 := w0) (gp := gp) (gt := gt) (v := v) (pl := pl) (ws := ws) (wx := w5.setCell ⟨gt, 0, none⟩ (.int .i64 1)) ⟨⟨1, v1, v2, crZ, crZ⟩, HT4.out.put 0 (.int .i64 1), HL.out⟩ (HR4.out.trigPut ((Tide.Chg.refl (fun b => b = gt) w5).put (p := ⟨gt, 0, none⟩) (.inl rfl) _) npt hg0 HOb.out))
        go_wp2_with fail
        go_meet
        exact ⟨rfl, HMd⟩
    have e1 : (x.toList == [108, 97, 103]) = false := word_ne (y := wdLag) (by rw [ByteArray.toList_eq]; rfl) hxlag
    by_cases hxdepth : x = wdDepth
    · clear e1 hxlag
      have e9 : (x.toList == [108, 97, 103]) = false := word_ne (y := wdLag) (by rw [ByteArray.toList_eq]; rfl) (by rw [hxdepth]; decide)
      have e1 : (x.toList == [100, 101, 112, 116, 104]) = true := word_eq (by rw [ByteArray.toList_eq]; rfl) hxdepth
      have HTr := Lib.hid (trig_depth (ws := ws) (HPx.out.trans hxdepth))
      clear hxdepth
      obtain ⟨o, hoff⟩ : ∃ o, o = if cap = 1 then 0 else 1 := ⟨_, rfl⟩
      have HWh := Lib.hid (show Calls Tryd.prog 66 #[.slice (some ⟨bw, o, none⟩) (n - 1) (cap - 1), .int .i64 2, .int .i64 7] W2 (WhsPost W2 (ws.drop 1) 2) from by
        have hd : WdsAt W2 bw o (ws.drop 1) := by
          by_cases e : cap = 1
          · rw [List.drop_eq_nil_of_le (by have := HN.out; omega)]; rw [if_pos e] at hoff; subst hoff; exact HW2.out.take 0
          · rw [if_neg e] at hoff; subst hoff; have := HW2.out.drop 1; rwa [Nat.zero_add] at this
        have q := refWholes (ws.drop 1) bw o (cap - 1) 2 W2 hd (fun z hz => HSz.out z (List.mem_of_mem_drop hz)) (by rw [List.length_drop]; have := HN.out; omega) (by decide)
        rw [List.length_drop, HN.out] at q
        exact q)
      go_upto_region 30 with fail
      go_cut [11] (fun vn wx => Hid (WhsMid W2 wx (ws.drop 1) 2 vn))
      case first =>
        by_cases hcap : cap = 1
        · rw [if_pos hcap] at hoff
          subst hoff hcap
          have hn1 : n = 1 := by omega
          subst hn1
          clear i1 i2 i3 h0 hl hc
          go_wp2_with fail
          refine HWh.out.mono ?_
          rintro e w1 ⟨vn, rfl, hy, hno, hb⟩
          have HMi := Lib.hid (WhsMid.mk hy hno hb)
          clear hy hno hb HWh
          go_wp2_with fail
          go_meet
          exact HMi
        · rw [if_neg hcap] at hoff
          subst hoff
          have hc1 : 1 < cap := by omega
          have hc2 : (1 : Int) ≤ (cap : Int) := by omega
          have hc3 : (1 : Int) ≤ (n : Int) := by omega
          go_wp2_with fail
          refine HWh.out.mono ?_
          rintro e w1 ⟨vn, rfl, hy, hno, hb⟩
          have HMi := Lib.hid (WhsMid.mk hy hno hb)
          clear hy hno hb HWh
          go_wp2_with fail
          go_meet
          exact HMi
      have HMi := hcut
      clear hcut HWh hoff
      rename World => w3
      have HR3 := Lib.hid (HR2.out.next HMi.out.below)
      have HT3 := Lib.hid (HT2.out.below HMi.out.below HT2.out.inside)
      have l1 : bw < w3.heap.size := Nat.lt_of_lt_of_le HW2.out.lt HMi.out.below.size
      have d0 : w3.cell? ⟨bw, 0, none⟩ = some (.string x) := (HMi.out.below.cell (p := ⟨bw, 0, none⟩) HW2.out.lt).trans c0
      cases hok : wordsOk (ws.drop 1) 2
      · have hvn := HMi.out.no hok
        subst hvn
        have hq := fun w => Lib.run_eql_slice_nil (P := Tryd.prog) w 69 3 none 0 0 0 0 Tryd.underlying69
        have HF := Lib.hid (rl_no (w' := w3) (gp := gp) (HLn.out (by rw [HTr.out]; exact two_none hok)) HR3.out.below)
        clear hok
        go_wp2_with fail
        go_ret
        exact HF.out
      · obtain ⟨bn, cn, hvn, hbn1, hbn2, hcn⟩ := nums_form (w := W2) (w' := w3) (ws := ws.drop 1) (n := 2) (by decide) (words_many hok) (HMi.out.yes hok)
        subst hvn
        have hq := fun w => Lib.run_eql_slice_nil (P := Tryd.prog) w 69 3 (some ⟨bn, 0, none⟩) 2 cn 0 0 Tryd.underlying69
        obtain ⟨v1, hv1⟩ : ∃ z, wV (Tide.pieceAt ws 1) = z := ⟨_, rfl⟩
        obtain ⟨v2, hv2⟩ : ∃ z, wV (Tide.pieceAt ws 2) = z := ⟨_, rfl⟩
        have n0 : w3.cell? ⟨bn, 0, none⟩ = some (.int .i64 v1) := by have q := hcn 0 (by decide); rw [piece_drop, hv1] at q; exact q
        have n1 : w3.cell? ⟨bn, 1, none⟩ = some (.int .i64 v2) := by have q := hcn 1 (by decide); rw [piece_drop, hv2] at q; exact q
        have HL := Lib.hid (show trigN ws = some ⟨2, v1, v2, crZ, crZ⟩ by rw [HTr.out, two_some hok, hv1, hv2])
        have l3 : bn ≠ gt := by have := HT2.out.inside; omega
        clear hok hcn hv1 hv2 hbn1
        go_upto_region 33 with fail
        refine wp_region_held_drew (S := fun Wx => Tide.Chg (fun b => b = gt) w3 Wx) (by kernel_rfl) (Tide.Chg.refl _ _).drew (fun hS => ?_)
        clear hS
        change wpAnyH _ _ _ _ _ 8 #[false, false, false, false, false, false, false, false] _ (World.drew _)
        have hS : Tide.Chg (fun b => b = gt) w3 w3.drew := (Tide.Chg.refl _ _).drew
        refine wpAnyH_take (i := 0) (v := .slice (some ⟨bn, 0, none⟩) 2 cn) rfl (by kernel_rfl) (by kernel_rfl) (by kernel_rfl) (fun _ _ _ h => h) (.inl ⟨by rfl, fun W hW => ?_⟩) hS ?_
        · clear hW; go_simp
        simp only [Act.put, List.getElem_toArray, List.getElem_cons_succ, List.getElem_cons_zero, List.setIfInBounds_toArray, List.set_cons_zero, List.set_cons_succ]
        refine wpAnyH_take (i := 1) (v := .pointer (some ⟨bn, 0, none⟩)) rfl (by kernel_rfl) (by kernel_rfl) (by kernel_rfl) (fun _ _ _ h => h) (.inl ⟨by rfl, fun W hW => ?_⟩) hS ?_
        · clear hW; go_simp
        simp only [Act.put, List.getElem_toArray, List.getElem_cons_succ, List.getElem_cons_zero, List.setIfInBounds_toArray, List.set_cons_zero, List.set_cons_succ]
        refine wpAnyH_take (i := 2) (v := .int .i64 v1) rfl (by kernel_rfl) (by kernel_rfl) (by kernel_rfl) (fun _ _ _ h => h) (.inl ⟨by rfl, fun W hW => ?_⟩) hS ?_
        · have d := (chg_cell hW hbn2 l3 0).trans n0; clear hW; go_simp
        simp only [Act.put, List.getElem_toArray, List.getElem_cons_succ, List.getElem_cons_zero, List.setIfInBounds_toArray, List.set_cons_zero, List.set_cons_succ]
        refine wpAnyH_take (i := 3) (v := .slice (some ⟨bn, 0, none⟩) 2 cn) rfl (by kernel_rfl) (by kernel_rfl) (by kernel_rfl) (fun _ _ _ h => h) (.inl ⟨by rfl, fun W hW => ?_⟩) hS ?_
        · clear hW; go_simp
        simp only [Act.put, List.getElem_toArray, List.getElem_cons_succ, List.getElem_cons_zero, List.setIfInBounds_toArray, List.set_cons_zero, List.set_cons_succ]
        refine wpAnyH_take (i := 4) (v := .pointer (some ⟨bn, 1, none⟩)) rfl (by kernel_rfl) (by kernel_rfl) (by kernel_rfl) (fun _ _ _ h => h) (.inl ⟨by rfl, fun W hW => ?_⟩) hS ?_
        · clear hW; go_simp
        simp only [Act.put, List.getElem_toArray, List.getElem_cons_succ, List.getElem_cons_zero, List.setIfInBounds_toArray, List.set_cons_zero, List.set_cons_succ]
        refine wpAnyH_take (i := 5) (v := .int .i64 v2) rfl (by kernel_rfl) (by kernel_rfl) (by kernel_rfl) (fun _ _ _ h => h) (.inl ⟨by rfl, fun W hW => ?_⟩) hS ?_
        · have d := (chg_cell hW hbn2 l3 1).trans n1; clear hW; go_simp
        simp only [Act.put, List.getElem_toArray, List.getElem_cons_succ, List.getElem_cons_zero, List.setIfInBounds_toArray, List.set_cons_zero, List.set_cons_succ]
        refine wpAnyH_take (i := 6) (v := .agg (trgA ⟨2, v1, v2, crZ, crZ⟩)) rfl (by kernel_rfl) (by kernel_rfl) (by kernel_rfl) (fun _ _ _ h => h) (.inl ⟨by rfl, fun W hW => ?_⟩) hS ?_
        · exact rl_exec_built rfl rfl (trig_built2 v1 v2)
        simp only [Act.put, List.getElem_toArray, List.getElem_cons_succ, List.getElem_cons_zero, List.setIfInBounds_toArray, List.set_cons_zero, List.set_cons_succ]
        refine wpAnyH_ready (rs := [7]) (by kernel_rfl) (by simp) (AllReadyH.cons rfl (fun K hK => ?_) AllReadyH.nil)
        refine rl_store_row rfl 82 (.tmp 10) (.tmp 173) rfl gt (trgA ⟨2, v1, v2, crZ, crZ⟩) rfl rfl 82 (trgA zeroT) HT3.out.drew (by kernel_rfl) rfl (by kernel_rfl) (hK.out _ _ (hS.step (rl_chg _ gt _) (fun g hg => .inl hg)) (fun hS' => ?_))
        clear hS hK K
        have HT4 := Lib.hid (rl_set HT3.out.drew (trgA ⟨2, v1, v2, crZ, crZ⟩))
        have HS := Lib.hid hS'
        clear hS'
        refine wpAnyH_done (by kernel_rfl) ?_ _
        have HR4 := Lib.hid (HR3.out.trigPut HS.out npt hg0 HOb.out)
        have e0 := (chg_cell HS.out l1 nwt 0).trans d0
        generalize (World.drew w3).setRow gt (trgA ⟨2, v1, v2, crZ, crZ⟩) = w5 at HT4 HR4 HS e0 ⊢
        have t0 : w5.cell? ⟨gt, 0, none⟩ = some (.int .i64 2) := HT4.out.here rfl
        have s0 := HT4.out.soft 0
        clear n0 n1 hq HS d0 c0
        have HMd := Lib.hid (RlMid.mk (w0 := w0) (gp := gp) (gt := gt) (v := v) (pl := pl) (ws := ws) (wx := w5) ⟨⟨2, v1, v2, crZ, crZ⟩, HT4.out, HL.out⟩ HR4.out)
        go_wp2_with fail
        go_meet
        exact ⟨rfl, HMd⟩
    have e2 : (x.toList == [100, 101, 112, 116, 104]) = false := word_ne (y := wdDepth) (by rw [ByteArray.toList_eq]; rfl) hxdepth
    by_cases hxspan : x = wdSpan
    · skip
      have e3 : (x.toList == [115, 112, 97, 110]) = true := word_eq (by rw [ByteArray.toList_eq]; rfl) hxspan
      have HTr := Lib.hid (trig_span (ws := ws) (HPx.out.trans hxspan))
      clear hxspan hxlag hxdepth
      have hsl := slash_bd ws
      have HIx := Lib.hid (show Calls Tryd.prog 67 #[.slice (some ⟨bw, 0, none⟩) n cap, .string ⟨#[47]⟩] W2 fun e w' => e = .returned (.int .i64 (slashAt ws)) ∧ W2 = w' from by
        refine (Tryd.slices_Index_string bw 0 n cap ws ⟨#[47]⟩ W2 (by rw [HN.out]; exact Nat.le_refl _) (by omega) (fun j hj => HW2.out.cell j _ (by rw [List.getD_eq_getElem?_getD, List.getElem?_eq_getElem hj]; rfl))).mono ?_
        rintro e w' ⟨he, hw'⟩
        rw [show ws.take n = ws by rw [← HN.out, List.take_length]] at he
        exact ⟨he, hw'.symm⟩)
      have HNo := Lib.hid (fun (w' : World) (h : timedOk ws = false) (hb : Below w0.heap.size w0 w') => rl_no (w' := w') (gp := gp) (HLn.out (by rw [HTr.out]; exact if_neg (by rw [h]; simp))) hb)
      obtain ⟨k, hk⟩ : ∃ k, slashAt ws = k := ⟨_, rfl⟩
      have HK := Lib.hid hk
      rw [hk] at HIx hsl
      rw [HN.out] at hsl
      obtain ⟨k0, k1⟩ := hsl
      clear hk
      by_cases h2 : 2 ≤ k
      · obtain ⟨q, rfl⟩ : ∃ q : Nat, k = (q : Int) := ⟨k.toNat, by omega⟩
        obtain ⟨y, hy⟩ := Tide.get_some ws (show 1 < ws.length by rw [HN.out]; omega)
        have HPy := Lib.hid (Tide.pieceAt_get hy)
        have HWh := Lib.hid (show Calls Tryd.prog 66 #[.slice (some ⟨bw, 1, none⟩) 1 (cap - 1), .int .i64 1, .int .i64 7] W2 (WhsPost W2 [y] 1) from by
          have hd : (ws.drop 1).take 1 = [y] := by rw [List.take_one, List.head?_drop, hy]; rfl
          have h1 := (HW2.out.drop 1).take 1
          rw [hd, Nat.zero_add] at h1
          exact refWholes [y] bw 1 (cap - 1) 1 W2 h1 (fun z hz => by rw [List.mem_singleton.1 hz]; exact HSz.out y (List.mem_of_getElem? hy)) (by simp) (by decide))
        have hxa : ((ws.take q).drop 2).length = q - 2 := by rw [List.length_drop, List.length_take, HN.out]; omega
        have hxb : (ws.drop (q + 1)).length = n - (q + 1) := by rw [List.length_drop, HN.out]
        have HJA := Lib.hid (fun (W' : World) (hb : Below W2.heap.size W2 W') => (by
          have h9 := refJoinedAt 32 (some ⟨bw, 2, none⟩) (cap - 2) ((ws.take q).drop 2) W' (fun _ => ⟨bw, 2, rfl, fun i z hz => by have := (((HW2.out.below hb).take q).drop 2).cell i z hz; rwa [Nat.zero_add] at this⟩) (fun z hz => HSz.out z (List.mem_of_mem_take (List.mem_of_mem_drop hz))) (by rw [hxa]; omega)
          rw [hxa] at h9
          have e : Tide.joinB 32 ((ws.take q).drop 2) = spanA ws := by unfold spanA; rw [HK.out]; rfl
          rw [e] at h9
          exact h9 : Calls Tryd.prog 35 #[.slice (some ⟨bw, 2, none⟩) (q - 2) (cap - 2), .string ⟨#[32]⟩] W' fun e w' => e = .returned (.string (spanA ws)) ∧ W' = w'))
        have HJB := Lib.hid (fun (W' : World) (o : Nat) (ho : q + 1 < cap → o = q + 1) (hb : Below W2.heap.size W2 W') => (by
          have h9 := refJoinedAt 32 (some ⟨bw, o, none⟩) (cap - (q + 1)) (ws.drop (q + 1)) W' (fun h0 => ⟨bw, o, rfl, fun i z hz => by rw [ho (by rw [hxb] at h0; omega)]; have := ((HW2.out.below hb).drop (q + 1)).cell i z hz; rwa [Nat.zero_add] at this⟩) (fun z hz => HSz.out z (List.mem_of_mem_drop hz)) (by rw [hxb]; omega)
          rw [hxb] at h9
          have e : Tide.joinB 32 (ws.drop (q + 1)) = spanB ws := by unfold spanB; rw [HK.out]; rfl
          rw [e] at h9
          exact h9 : Calls Tryd.prog 35 #[.slice (some ⟨bw, o, none⟩) (n - (q + 1)) (cap - (q + 1)), .string ⟨#[32]⟩] W' fun e w' => e = .returned (.string (spanB ws)) ∧ W' = w'))
        have HOkT := Lib.hid (show timedOk ws = (wOk y && (Tide.cronOk (spanA ws) && Tide.cronOk (spanB ws))) by unfold timedOk; rw [HK.out, decide_eq_true h2, HPy.out, Bool.true_and])
        have HTn := Lib.hid (show timedOk ws = true → timedN ws = some ⟨3, wV y, 0, crOf (spanA ws), crOf (spanB ws)⟩ from fun h => by unfold timedN; rw [if_pos h, HPy.out])
        obtain ⟨sa, hsa⟩ : ∃ sa, spanA ws = sa := ⟨_, rfl⟩
        obtain ⟨sb, hsb⟩ : ∃ sb, spanB ws = sb := ⟨_, rfl⟩
        rw [hsa] at HJA HOkT HTn
        rw [hsb] at HJB HOkT HTn
        obtain ⟨ca, hca⟩ : ∃ ca, crV sa = ca := ⟨_, rfl⟩
        obtain ⟨cb, hcb⟩ : ∃ cb, crV sb = cb := ⟨_, rfl⟩
        have HRA := Lib.hid (fun (W' : World) => refReadCr sa ca hca W')
        have HRB := Lib.hid (fun (W' : World) => refReadCr sb cb hcb W')
        have HCA := Lib.hid hca
        have HCB := Lib.hid hcb
        have HDA := Lib.hid (code_is sa)
        have HDB := Lib.hid (code_is sb)
        generalize Tide.cronCode sa = da at HRA HDA
        generalize Tide.cronCode sb = db at HRB HDB
        have q0 : (2 : Int) ≤ (q : Int) := h2
        have q1 : (q : Int) < (n : Int) := k1
        have q2 : (q : Int) ≤ (cap : Int) := by omega
        have q3 : 2 ≤ q := by omega
        have q4 : q < n := by omega
        have q5 : q < cap := by omega
        have q6 : cap ≠ 1 := by omega
        have q7 : cap ≠ 2 := by omega
        have q8 : (1 : Int) ≤ (cap : Int) := by omega
        have q9 : (2 : Int) ≤ (cap : Int) := by omega
        have r0 : (1 : Int) ≤ (n : Int) := by omega
        have r1 : (q : Int) ≤ (n : Int) := by omega
        have r2 : decide ((q : Int) < 2) = false := decide_eq_false (by omega)
        have r3 : (q : Int) + 1 ≤ (n : Int) := by omega
        have r4 : (q : Int) ≤ 1000001 := by omega
        have r5 : (0 : Int) ≤ (q : Int) := by omega
        have hbwl := HW2.out.lt
        clear hxa hxb hy hsa hsb hca hcb k0 k1 h2
        go_wp2_with fail
        refine HIx.out.mono ?_
        rintro e w1 ⟨rfl, rfl⟩
        go_upto_region 40 with fail
        go_wp2_with fail
        refine HWh.out.mono ?_
        rintro e w3 ⟨vn, rfl, hy3, hn3, hb3⟩
        have HMi := Lib.hid (WhsMid.mk hy3 hn3 hb3)
        clear hy3 hn3 hb3 HWh HIx
        obtain ⟨An, nn, cn, hvn⟩ : ∃ An nn cn, vn = .slice An nn cn := by
          cases hyo : wordsOk [y] 1
          · exact ⟨_, _, _, HMi.out.no hyo⟩
          · obtain ⟨A, c, e, _⟩ := (HMi.out.yes hyo).slice; exact ⟨A, 1, c, e⟩
        subst hvn
        go_wp2_with fail
        refine (HJA.out w3 HMi.out.below).mono ?_
        rintro e w4 ⟨rfl, rfl⟩
        go_wp2_with fail
        refine (HRA.out w3).mono ?_
        rintro e w5 ⟨rfl, hb5⟩
        have HZ5 := Lib.hid (show Tide.At (w5.alloc (.cells #[.int .u64 0, .int .u64 0, .int .u64 0, .int .u64 0, .int .u64 0, .bool false, .bool false] 24)) w5.heap.size 24 zeroV from Tide.At.made w5 24 zeroV)
        have hbz := rl_row ((Below.refl w5.heap.size w5).alloc (Nat.le_refl _) (.cells #[.int .u64 0, .int .u64 0, .int .u64 0, .int .u64 0, .int .u64 0, .bool false, .bool false] 24)) (g := w5.heap.size) (Nat.le_refl _) ca.cells
        have HB5 := Lib.hid (show Below w3.heap.size w3 ((w5.alloc (.cells #[.int .u64 0, .int .u64 0, .int .u64 0, .int .u64 0, .int .u64 0, .bool false, .bool false] 24)).setRow w5.heap.size ca.cells) from hb5.trans (hbz.mono hb5.size))
        have HA5 := Lib.hid (rl_set HZ5.out ca.cells)
        have hl5 := hb5.size
        clear hbz hb5 HRA HJA
        go_upto_region 42 with (refine wpList_store_row rfl 24 (.tmp 14) (.tmp 194) rfl w5.heap.size ca.cells rfl rfl 24 zeroV HZ5.out (by kernel_rfl) rfl (by kernel_rfl) ?_)
        clear HZ5
        generalize ((w5.alloc (.cells #[.int .u64 0, .int .u64 0, .int .u64 0, .int .u64 0, .int .u64 0, .bool false, .bool false] 24)).setRow w5.heap.size ca.cells) = w6 at HB5 HA5 ⊢
        generalize w5.heap.size = ga at HA5 hl5 ⊢
        have HB6 := Lib.hid (HMi.out.below.trans (HB5.out.mono HMi.out.below.size))
        go_cut [16, 17] (fun a b wx => ∃ gb, a = .pointer (some ⟨gb, 0, none⟩) ∧ b = .int .i64 db ∧ Hid (SpB w6 wx gb cb))
        case first =>
          by_cases hcap : q + 1 = cap
          · have HJ := Lib.hid (by
              have h9 := HJB.out w6 0 (by omega) HB6.out
              rw [show n - (q + 1) = 0 by omega, show cap - (q + 1) = 0 by omega] at h9
              exact h9 : Calls Tryd.prog 35 #[.slice (some ⟨bw, 0, none⟩) 0 0, .string ⟨#[32]⟩] w6 fun e w' => e = .returned (.string sb) ∧ w6 = w')
            have hnq : n = q + 1 := by omega
            subst hnq
            have hcq : cap = q + 1 := hcap.symm
            subst hcq
            clear hcap i1 i2 i3 hc hl HJB
            go_wp2_with fail
            (with_reducible refine HJ.out.mono ?_)
            rintro e w7 ⟨rfl, rfl⟩
            go_wp2_with fail
            refine (HRB.out w6).mono ?_
            rintro e w8 ⟨rfl, hb8⟩
            have HZ8 := Lib.hid (show Tide.At (w8.alloc (.cells #[.int .u64 0, .int .u64 0, .int .u64 0, .int .u64 0, .int .u64 0, .bool false, .bool false] 24)) w8.heap.size 24 zeroV from Tide.At.made w8 24 zeroV)
            have hbz := rl_row ((Below.refl w8.heap.size w8).alloc (Nat.le_refl _) (.cells #[.int .u64 0, .int .u64 0, .int .u64 0, .int .u64 0, .int .u64 0, .bool false, .bool false] 24)) (g := w8.heap.size) (Nat.le_refl _) cb.cells
            have HSp := Lib.hid (SpB.mk (rl_set HZ8.out cb.cells) (hb8.trans (hbz.mono hb8.size)) hb8.size)
            clear hbz hb8 HJ HRB
            go_wp2_with (refine wpList_store_row rfl 24 (.tmp 16) (.tmp 203) rfl w8.heap.size cb.cells rfl rfl 24 zeroV HZ8.out (by kernel_rfl) rfl (by kernel_rfl) ?_)
            go_meet
            exact ⟨w8.heap.size, rfl, rfl, HSp⟩
          · have HJ := Lib.hid (HJB.out w6 (q + 1) (fun _ => rfl) HB6.out)
            have hcq : q + 1 < cap := by omega
            have hcq2 : (q : Int) + 1 ≤ (cap : Int) := by omega
            have hcq3 : cap ≠ q + 1 := by omega
            clear HJB
            go_wp2_with fail
            (with_reducible refine HJ.out.mono ?_)
            rintro e w7 ⟨rfl, rfl⟩
            go_wp2_with fail
            refine (HRB.out w6).mono ?_
            rintro e w8 ⟨rfl, hb8⟩
            have HZ8 := Lib.hid (show Tide.At (w8.alloc (.cells #[.int .u64 0, .int .u64 0, .int .u64 0, .int .u64 0, .int .u64 0, .bool false, .bool false] 24)) w8.heap.size 24 zeroV from Tide.At.made w8 24 zeroV)
            have hbz := rl_row ((Below.refl w8.heap.size w8).alloc (Nat.le_refl _) (.cells #[.int .u64 0, .int .u64 0, .int .u64 0, .int .u64 0, .int .u64 0, .bool false, .bool false] 24)) (g := w8.heap.size) (Nat.le_refl _) cb.cells
            have HSp := Lib.hid (SpB.mk (rl_set HZ8.out cb.cells) (hb8.trans (hbz.mono hb8.size)) hb8.size)
            clear hbz hb8 HJ HRB
            go_wp2_with (refine wpList_store_row rfl 24 (.tmp 16) (.tmp 203) rfl w8.heap.size cb.cells rfl rfl 24 zeroV HZ8.out (by kernel_rfl) rfl (by kernel_rfl) ?_)
            go_meet
            exact ⟨w8.heap.size, rfl, rfl, HSp⟩
        obtain ⟨gb, rfl, rfl, HSp⟩ := hcut
        rename World => w7
        have HB7 := Lib.hid (HB6.out.trans (HSp.out.below.mono HB6.out.size))
        have HR7 := Lib.hid (HR2.out.next HB7.out)
        have HT7 := Lib.hid (HT2.out.below HB7.out HT2.out.inside)
        have HA7 := Lib.hid (HA5.out.below HSp.out.below HA5.out.inside)
        have HG7 := Lib.hid HSp.out.at_
        have nga : ga ≠ gt := by have := HT2.out.inside; have := HMi.out.below.size; omega
        have ngb : gb ≠ gt := by have := HT2.out.inside; have := HSp.out.new; have := HB6.out.size; omega
        have HF := Lib.hid (fun (h : timedOk ws = false) => HNo.out w7 h HR7.out.below)
        have hmm := HMi.out.below.size
        have HBm := Lib.hid (show Below w3.heap.size w3 w7 from HB5.out.trans (HSp.out.below.mono HB5.out.size))
        clear HJB HRB HNo HB6 HB5 HA5 HSp HB7 hl5
        cases hyo : wOk y
        · have e := HMi.out.no ((one_word y).trans hyo)
          cases e
          have hq := fun w => Lib.run_eql_slice_nil (P := Tryd.prog) w 69 3 none 0 0 0 0 Tryd.underlying69
          have HF2 := Lib.hid (HF.out (by rw [HOkT.out, hyo]; rfl))
          clear hyo HF
          go_wp2_with fail
          go_ret
          exact HF2.out
        · obtain ⟨bn, c2, hvn, hbn1, hbn2, hcn⟩ := nums_form (w := W2) (w' := w3) (ws := [y]) (n := 1) (by decide) rfl (HMi.out.yes ((one_word y).trans hyo))
          cases hvn
          have hq := fun w => Lib.run_eql_slice_nil (P := Tryd.prog) w 69 3 (some ⟨bn, 0, none⟩) 1 cn 0 0 Tryd.underlying69
          have HOk2 := Lib.hid (HOkT.out.trans (by rw [hyo, Bool.true_and]))
          have HHyo := Lib.hid hyo
          obtain ⟨v1, hv1⟩ : ∃ z, wV y = z := ⟨_, rfl⟩
          have n0 : w7.cell? ⟨bn, 0, none⟩ = some (.int .i64 v1) := (HBm.out.cell (p := ⟨bn, 0, none⟩) hbn2).trans (by rw [← hv1]; exact hcn 0 (by decide))
          have HV1 := Lib.hid hv1
          have l3 : bn ≠ gt := by have := HT2.out.inside; omega
          have l4 : bn < w7.heap.size := Nat.lt_of_lt_of_le hbn2 HBm.out.size
          clear hyo hcn hv1 hbn1 HMi
          cases hA : Tide.cronOk sa
          · have kA : (da != 0) = true := by have := HDA.out; rw [hA] at this; simp [bne, this]
            have HF2 := Lib.hid (HF.out (by rw [HOk2.out, hA]; rfl))
            clear hA HF
            go_wp2_with fail
            go_ret
            exact HF2.out
          · have kA : (da != 0) = false := by have := HDA.out; rw [hA] at this; simp [bne, this]
            have HHA := Lib.hid hA
            cases hB : Tide.cronOk sb
            · have kB : (db != 0) = true := by have := HDB.out; rw [hB] at this; simp [bne, this]
              have HF2 := Lib.hid (HF.out (by rw [HOk2.out, hB, Bool.and_false]))
              clear hA hB HF
              go_wp2_with fail
              go_ret
              exact HF2.out
            · have kB : (db != 0) = false := by have := HDB.out; rw [hB] at this; simp [bne, this]
              have HL := Lib.hid (show trigN ws = some ⟨3, v1, 0, ca, cb⟩ from by
                rw [HTr.out, HTn.out (by rw [HOk2.out, hA, hB]; rfl), ← HCA.out, ← HCB.out, HV1.out]
                unfold crV
                rw [if_pos hA, if_pos hB])
              clear hA hB HF
              go_upto_region 45 with fail
              refine wp_region_held_drew (S := fun Wx => Tide.Chg (fun b => b = gt) w7 Wx) (by kernel_rfl) (Tide.Chg.refl _ _).drew (fun hS => ?_)
              clear hS
              change wpAnyH _ _ _ _ _ 8 #[false, false, false, false, false, false, false, false] _ (World.drew _)
              have hS : Tide.Chg (fun b => b = gt) w7 w7.drew := (Tide.Chg.refl _ _).drew
              refine wpAnyH_take (i := 0) (v := .slice (some ⟨bn, 0, none⟩) 1 cn) rfl (by kernel_rfl) (by kernel_rfl) (by kernel_rfl) (fun _ _ _ h => h) (.inl ⟨by rfl, fun W hW => ?_⟩) hS ?_
              · clear hW; go_simp
              simp only [Act.put, List.getElem_toArray, List.getElem_cons_succ, List.getElem_cons_zero, List.setIfInBounds_toArray, List.set_cons_zero, List.set_cons_succ]
              refine wpAnyH_take (i := 1) (v := .pointer (some ⟨bn, 0, none⟩)) rfl (by kernel_rfl) (by kernel_rfl) (by kernel_rfl) (fun _ _ _ h => h) (.inl ⟨by rfl, fun W hW => ?_⟩) hS ?_
              · clear hW; go_simp
              simp only [Act.put, List.getElem_toArray, List.getElem_cons_succ, List.getElem_cons_zero, List.setIfInBounds_toArray, List.set_cons_zero, List.set_cons_succ]
              refine wpAnyH_take (i := 2) (v := .int .i64 v1) rfl (by kernel_rfl) (by kernel_rfl) (by kernel_rfl) (fun _ _ _ h => h) (.inl ⟨by rfl, fun W hW => ?_⟩) hS ?_
              · have d := (chg_cell hW l4 l3 0).trans n0; clear hW; go_simp
              simp only [Act.put, List.getElem_toArray, List.getElem_cons_succ, List.getElem_cons_zero, List.setIfInBounds_toArray, List.set_cons_zero, List.set_cons_succ]
              refine wpAnyH_take (i := 3) (v := .agg ca.cells) rfl (by kernel_rfl) (by kernel_rfl) (by kernel_rfl) (fun _ _ _ h => h) (.inl ⟨by rfl, fun W hW => ?_⟩) hS ?_
              · exact rl_exec_load rfl rfl (HA7.out.chg hW nga) Tryd.underlying24 rfl (by kernel_rfl)
              simp only [Act.put, List.getElem_toArray, List.getElem_cons_succ, List.getElem_cons_zero, List.setIfInBounds_toArray, List.set_cons_zero, List.set_cons_succ]
              refine wpAnyH_take (i := 4) (v := .agg cb.cells) rfl (by kernel_rfl) (by kernel_rfl) (by kernel_rfl) (fun _ _ _ h => h) (.inl ⟨by rfl, fun W hW => ?_⟩) hS ?_
              · exact rl_exec_load rfl rfl (HG7.out.chg hW ngb) Tryd.underlying24 rfl (by kernel_rfl)
              simp only [Act.put, List.getElem_toArray, List.getElem_cons_succ, List.getElem_cons_zero, List.setIfInBounds_toArray, List.set_cons_zero, List.set_cons_succ]
              refine wpAnyH_take (i := 5) (v := .agg (ca.cells ++ cb.cells)) rfl (by kernel_rfl) (by kernel_rfl) (by kernel_rfl) (fun _ _ _ h => h) (.inl ⟨by rfl, fun W hW => ?_⟩) hS ?_
              · exact rl_exec_built rfl rfl (span_built ca cb)
              simp only [Act.put, List.getElem_toArray, List.getElem_cons_succ, List.getElem_cons_zero, List.setIfInBounds_toArray, List.set_cons_zero, List.set_cons_succ]
              refine wpAnyH_take (i := 6) (v := .agg (trgA ⟨3, v1, 0, ca, cb⟩)) rfl (by kernel_rfl) (by kernel_rfl) (by kernel_rfl) (fun _ _ _ h => h) (.inl ⟨by rfl, fun W hW => ?_⟩) hS ?_
              · exact rl_exec_built rfl rfl (trig_built3 v1 ca cb)
              simp only [Act.put, List.getElem_toArray, List.getElem_cons_succ, List.getElem_cons_zero, List.setIfInBounds_toArray, List.set_cons_zero, List.set_cons_succ]
              refine wpAnyH_ready (rs := [7]) (by kernel_rfl) (by simp) (AllReadyH.cons rfl (fun K hK => ?_) AllReadyH.nil)
              refine rl_store_row rfl 82 (.tmp 10) (.tmp 221) rfl gt (trgA ⟨3, v1, 0, ca, cb⟩) rfl rfl 82 (trgA zeroT) HT7.out.drew (by kernel_rfl) rfl (by kernel_rfl) (hK.out _ _ (hS.step (rl_chg _ gt _) (fun g hg => .inl hg)) (fun hS' => ?_))
              clear hS hK K
              have HMd := Lib.hid (RlMid.mk (w0 := w0) (gp := gp) (gt := gt) (v := v) (pl := pl) (ws := ws) ⟨⟨3, v1, 0, ca, cb⟩, rl_set HT7.out.drew (trgA ⟨3, v1, 0, ca, cb⟩), HL.out⟩ (HR7.out.trigPut hS' npt hg0 HOb.out))
              clear hS'
              refine wpAnyH_done (by kernel_rfl) ?_ _
              go_wp2_with fail
              go_meet
              exact ⟨rfl, HMd.out⟩
      · have HF := Lib.hid (HNo.out W2 (by unfold timedOk; rw [HK.out, decide_eq_false h2]; rfl) HR2.out.below)
        have r2 : decide (k < 2) = true := decide_eq_true (by omega)
        clear h2 HNo
        go_wp2_with fail
        refine HIx.out.mono ?_
        rintro e w1 ⟨rfl, rfl⟩
        go_wp2_with fail
        go_ret
        exact HF.out
    have e3 : (x.toList == [115, 112, 97, 110]) = false := word_ne (y := wdSpan) (by rw [ByteArray.toList_eq]; rfl) hxspan
    have HF := Lib.hid (rl_no (w' := W2) (gp := gp) (HLn.out (trig_else (by rw [HPx.out]; exact hxlag) (by rw [HPx.out]; exact hxdepth) (by rw [HPx.out]; exact hxspan))) HR2.out.below)
    clear hxlag hxdepth hxspan
    go_wp2_with fail
    go_ret
    exact HF.out
  case rest =>
    obtain ⟨rfl, HMd⟩ := hcut
    clear c0 HT2 HW2 HR2
    rename World => W6
    obtain ⟨⟨t, hat, htn⟩, hst⟩ := HMd.out
    have HO := Lib.hid (fun (V : World) (hb : Below W6.heap.size W6 V) => (hst.next hb).own)
    have HSt := Lib.hid (fun (V : World) (hb : Below W6.heap.size W6 V) => hst.next hb)
    have HAt := Lib.hid hat
    have HTn := Lib.hid htn
    have x17 : W6.cell? ⟨gp, 17, none⟩ = some v := hst.plan.here rfl
    have hgp6 : gp < W6.heap.size := hst.plan.inside
    have hgt6 : gt < W6.heap.size := hat.inside
    obtain ⟨i0, hi, hz0, hz1, hz2⟩ := info_split trig_info
    have hm3 := Lib.hid (show pl.trigs.length + 1 ≤ maxLen by have := HM.out; simp only [maxLen]; omega)
    have hm4 := Lib.hid (show (pl.trigs.length + 1) * 120 ≤ 140737488355328 by have := HM.out; omega)
    have hog := hst.og
    have HFin := Lib.hid (fun (V : World) (hbV : Below W6.heap.size W6 V) (gb cap1 : Nat) (w1 : World) (hown1 : w1.ownsRow 0 82 17 (.slice (some ⟨gb, 0, none⟩) (pl.trigs.length + 1) cap1) (pl.trigs.length + 1) (pl.trigs.flatMap Trg.enc ++ Trg.enc t)) (hg1 : V.grownBy w1 v.ownBlock) (hl1 : v.ownBlock = some gb ∨ gb = V.heap.size) (hl2 : gb < w1.heap.size) => (show w1.cell? ⟨gp, 17, none⟩ = some v ∧ w1.frozen? ⟨gp, 17, none⟩ = false ∧ RlPost w0 gp i pl ws (.returned (.bool true)) (w1.setCell ⟨gp, 17, none⟩ (.slice (some ⟨gb, 0, none⟩) (pl.trigs.length + 1) cap1)) from by
      have hV := HSt.out V hbV
      obtain ⟨r1, r2⟩ := hV.own.app hown1 hg1 hl1 hl2
      have hpl := hV.plan.chg r2 (fun e => e.2 rfl)
      have hbl := hV.below.trans (r2.below hV.below.size (fun b hb e => by have := e.1; omega))
      have hpl2 := hV.plan.inside
      have hbz : Below w0.heap.size w0 (w1.setCell ⟨gp, 17, none⟩ (.slice (some ⟨gb, 0, none⟩) (pl.trigs.length + 1) cap1)) := hbl.setCell (p := ⟨gp, 17, none⟩) hog _
      refine ⟨hpl.here rfl, hpl.soft 17, rl_yes (p' := { pl with trigs := pl.trigs ++ [t] }) (v' := .slice (some ⟨gb, 0, none⟩) (pl.trigs.length + 1) cap1) (by rw [HLm.out, HTn.out]; rfl) ⟨hpl.put 17 _, ?_, hbz, hog⟩⟩
      have h9 : Tide.OwnRow (fun b => w0.heap.size ≤ b ∧ b ≠ gp) w1 82 17 (.slice (some ⟨gb, 0, none⟩) (pl.trigs.length + 1) cap1) (pl.trigs.length + 1) (pl.trigs.flatMap Trg.enc ++ Trg.enc t) := r1.mono (fun b _ hb => by
        rcases hb with hb | hb
        · exact hb
        · have := hV.below.size; exact ⟨by omega, by omega⟩)
      have h10 := h9.other (p := ⟨gp, 17, none⟩) (fun hh => hh.2 rfl) (.slice (some ⟨gb, 0, none⟩) (pl.trigs.length + 1) cap1)
      rw [show ({ pl with trigs := pl.trigs ++ [t] } : Pln).trigs.length = pl.trigs.length + 1 by simp, show ({ pl with trigs := pl.trigs ++ [t] } : Pln).trigs.flatMap Trg.enc = pl.trigs.flatMap Trg.enc ++ Trg.enc t by simp]
      exact h10))
    have hsm : ¬ 1 * i0.size > 2 ^ 24 := by rw [hz1]; decide
    have hpo : ¬ 1 * i0.size = 0 := by rw [hz1]; decide
    have HFill := Lib.hid (show Instr.fill (fun i => some (i * i0.size, i0.size)) ((Array.range (1 * i0.size)).map ((Value.agg #[.int .i64 0, .int .i64 0, .int .i64 0, .int .u64 0, .int .u64 0, .int .u64 0, .int .u64 0, .int .u64 0, .bool false, .bool false, .int .u64 0, .int .u64 0, .int .u64 0, .int .u64 0, .int .u64 0, .bool false, .bool false]).cells[· % (Value.agg #[.int .i64 0, .int .i64 0, .int .i64 0, .int .u64 0, .int .u64 0, .int .u64 0, .int .u64 0, .int .u64 0, .bool false, .bool false, .int .u64 0, .int .u64 0, .int .u64 0, .int .u64 0, .int .u64 0, .bool false, .bool false]).cells.size]!)) [(0, .agg (trgA t))] = some (trgA t) from by rw [hz1]; exact trig_fill t)
    clear hat htn hst
    go_upto_region 46 with fail
    refine wp_region_held_drew (S := fun _ => True) (by kernel_rfl) trivial (fun hS => ?_)
    clear hS
    change wpAnyH _ _ _ _ _ 11 #[false, false, false, false, false, false, false, false, false, false, false] _ (World.drew _)
    refine wpAnyH_take (i := 0) (v := .pointer (some ⟨gp, 0, none⟩)) rfl (by kernel_rfl) (by kernel_rfl) (by kernel_rfl) (fun _ _ _ h => h) (.inl ⟨by rfl, fun W hW => ?_⟩) trivial ?_
    · clear hW; go_simp
    simp only [Act.put, List.getElem_toArray, List.getElem_cons_succ, List.getElem_cons_zero, List.setIfInBounds_toArray, List.set_cons_zero, List.set_cons_succ]
    refine wpAnyH_take (i := 1) (v := .pointer (some ⟨gp, 0, none⟩)) rfl (by kernel_rfl) (by kernel_rfl) (by kernel_rfl) (fun _ _ _ h => h) (.inl ⟨by rfl, fun W hW => ?_⟩) trivial ?_
    · clear hW; go_simp
    simp only [Act.put, List.getElem_toArray, List.getElem_cons_succ, List.getElem_cons_zero, List.setIfInBounds_toArray, List.set_cons_zero, List.set_cons_succ]
    refine wpAnyH_take (i := 2) (v := .pointer (some ⟨gp, 0, none⟩)) rfl (by kernel_rfl) (by kernel_rfl) (by kernel_rfl) (fun _ _ _ h => h) (.inl ⟨by rfl, fun W hW => ?_⟩) trivial ?_
    · clear hW; go_simp
    simp only [Act.put, List.getElem_toArray, List.getElem_cons_succ, List.getElem_cons_zero, List.setIfInBounds_toArray, List.set_cons_zero, List.set_cons_succ]
    refine wpAnyH_take (i := 3) (v := .pointer (some ⟨gp, 17, none⟩)) rfl (by kernel_rfl) (by kernel_rfl) (by kernel_rfl) (fun _ _ _ h => h) (.inl ⟨by rfl, fun W hW => ?_⟩) trivial ?_
    · clear hW; go_simp
    simp only [Act.put, List.getElem_toArray, List.getElem_cons_succ, List.getElem_cons_zero, List.setIfInBounds_toArray, List.set_cons_zero, List.set_cons_succ]
    refine wpAnyH_ready (rs := [4, 5]) (by kernel_rfl) (by simp) (AllReadyH.cons rfl (fun K hK => ?_) (AllReadyH.cons rfl (fun K hK => ?_) AllReadyH.nil))
    · go_simp
      refine hK.out _ _ trivial (fun hS => ?_)
      clear hS hK K
      refine wpAnyH_ready (rs := [5]) (by kernel_rfl) (by simp) (AllReadyH.cons rfl (fun K hK => ?_) AllReadyH.nil)
      refine step_load_row rfl 82 82 (.tmp 10) rfl gt rfl (trgA t) HAt.out _ Tryd.underlying82 rfl (by kernel_rfl) (hK.out _ _ trivial (fun hS => ?_))
      clear hS hK K
      refine wpAnyH_ready (rs := [6]) (by kernel_rfl) (by simp) (AllReadyH.cons rfl (fun K hK => ?_) AllReadyH.nil)
      refine step_bslice2 rfl 40 82 1 _ rfl [(0, .agg (trgA t))] rfl (trgA t) i0 (.agg #[.int .i64 0, .int .i64 0, .int .i64 0, .int .u64 0, .int .u64 0, .int .u64 0, .int .u64 0, .int .u64 0, .bool false, .bool false, .int .u64 0, .int .u64 0, .int .u64 0, .int .u64 0, .int .u64 0, .bool false, .bool false]) Tryd.underlying40 hi hz0 hsm hpo HFill.out (hK.out _ _ trivial (fun hS => ?_))
      clear hS hK K
      refine wpAnyH_ready (rs := [7]) (by kernel_rfl) (by simp) (AllReadyH.cons rfl (fun K hK => ?_) AllReadyH.nil)
      refine step_append_lies _ rfl (.tmp 226) (.tmp 228) 40 rfl 0 82 i0 (.agg #[.int .i64 0, .int .i64 0, .int .i64 0, .int .u64 0, .int .u64 0, .int .u64 0, .int .u64 0, .int .u64 0, .bool false, .bool false, .int .u64 0, .int .u64 0, .int .u64 0, .int .u64 0, .int .u64 0, .bool false, .bool false]) 17 120 Tryd.underlying40 hi hz0 hz1 hz2 rfl (by decide) v _ _ rfl (HO.out _ (by first | exact (Below.refl _ _).drew.alloc (Nat.le_refl _) _ | exact ((Below.refl _ _).alloc (Nat.le_refl _) _).drew | exact (Below.refl _ _).alloc (Nat.le_refl _) _)).owns ⟨W6.heap.size, 0, none⟩ 1 1 (Trg.enc t) rfl rfl (fun j u hu => by rw [Addr.add_lit, Nat.zero_add]; exact (show Tide.At _ W6.heap.size 82 (trgA t) by first | exact Tide.At.made _ _ _ | exact (Tide.At.made _ _ _).drew).here (by rw [trgA_enc, List.getElem?_toArray]; exact hu)) (enc_one t) (by decide) hm3.out hm4.out (Nat.zero_le _) _ rfl ?_
      intro gb cap1 w1 hown1 hg1 hl1 hl2
      obtain ⟨c9, f9, HF⟩ := HFin.out _ (by first | exact (Below.refl _ _).drew.alloc (Nat.le_refl _) _ | exact ((Below.refl _ _).alloc (Nat.le_refl _) _).drew | exact (Below.refl _ _).alloc (Nat.le_refl _) _) gb cap1 w1 hown1 hg1 hl1 hl2
      refine hK.out _ _ trivial (fun hS => ?_)
      clear hown1 hg1 hl1 hl2
      clear hS hK K
      refine wpAnyH_take (i := 8) (v := .pointer (some ⟨gp, 0, none⟩)) rfl (by kernel_rfl) (by kernel_rfl) (by kernel_rfl) (fun _ _ _ h => h) (.inl ⟨by rfl, fun W hW => ?_⟩) trivial ?_
      · clear hW; go_simp
      simp only [Act.put, List.getElem_toArray, List.getElem_cons_succ, List.getElem_cons_zero, List.setIfInBounds_toArray, List.set_cons_zero, List.set_cons_succ]
      refine wpAnyH_take (i := 9) (v := .pointer (some ⟨gp, 17, none⟩)) rfl (by kernel_rfl) (by kernel_rfl) (by kernel_rfl) (fun _ _ _ h => h) (.inl ⟨by rfl, fun W hW => ?_⟩) trivial ?_
      · clear hW; go_simp
      simp only [Act.put, List.getElem_toArray, List.getElem_cons_succ, List.getElem_cons_zero, List.setIfInBounds_toArray, List.set_cons_zero, List.set_cons_succ]
      refine wpAnyH_ready (rs := [10]) (by kernel_rfl) (by simp) (AllReadyH.cons rfl (fun K hK => ?_) AllReadyH.nil)
      go_simp
      refine hK.out _ _ trivial (fun hS => ?_)
      clear hS hK K
      refine wpAnyH_done (by kernel_rfl) ?_ _
      go_wp2_with fail
      go_ret
      exact HF
    · refine step_load_row rfl 82 82 (.tmp 10) rfl gt rfl (trgA t) HAt.out _ Tryd.underlying82 rfl (by kernel_rfl) (hK.out _ _ trivial (fun hS => ?_))
      clear hS hK K
      refine wpAnyH_ready (rs := [4, 6]) (by kernel_rfl) (by simp) (AllReadyH.cons rfl (fun K hK => ?_) (AllReadyH.cons rfl (fun K hK => ?_) AllReadyH.nil))
      · go_simp
        refine hK.out _ _ trivial (fun hS => ?_)
        clear hS hK K
        refine wpAnyH_ready (rs := [6]) (by kernel_rfl) (by simp) (AllReadyH.cons rfl (fun K hK => ?_) AllReadyH.nil)
        refine step_bslice2 rfl 40 82 1 _ rfl [(0, .agg (trgA t))] rfl (trgA t) i0 (.agg #[.int .i64 0, .int .i64 0, .int .i64 0, .int .u64 0, .int .u64 0, .int .u64 0, .int .u64 0, .int .u64 0, .bool false, .bool false, .int .u64 0, .int .u64 0, .int .u64 0, .int .u64 0, .int .u64 0, .bool false, .bool false]) Tryd.underlying40 hi hz0 hsm hpo HFill.out (hK.out _ _ trivial (fun hS => ?_))
        clear hS hK K
        refine wpAnyH_ready (rs := [7]) (by kernel_rfl) (by simp) (AllReadyH.cons rfl (fun K hK => ?_) AllReadyH.nil)
        refine step_append_lies _ rfl (.tmp 226) (.tmp 228) 40 rfl 0 82 i0 (.agg #[.int .i64 0, .int .i64 0, .int .i64 0, .int .u64 0, .int .u64 0, .int .u64 0, .int .u64 0, .int .u64 0, .bool false, .bool false, .int .u64 0, .int .u64 0, .int .u64 0, .int .u64 0, .int .u64 0, .bool false, .bool false]) 17 120 Tryd.underlying40 hi hz0 hz1 hz2 rfl (by decide) v _ _ rfl (HO.out _ (by first | exact (Below.refl _ _).drew.alloc (Nat.le_refl _) _ | exact ((Below.refl _ _).alloc (Nat.le_refl _) _).drew | exact (Below.refl _ _).alloc (Nat.le_refl _) _)).owns ⟨W6.heap.size, 0, none⟩ 1 1 (Trg.enc t) rfl rfl (fun j u hu => by rw [Addr.add_lit, Nat.zero_add]; exact (show Tide.At _ W6.heap.size 82 (trgA t) by first | exact Tide.At.made _ _ _ | exact (Tide.At.made _ _ _).drew).here (by rw [trgA_enc, List.getElem?_toArray]; exact hu)) (enc_one t) (by decide) hm3.out hm4.out (Nat.zero_le _) _ rfl ?_
        intro gb cap1 w1 hown1 hg1 hl1 hl2
        obtain ⟨c9, f9, HF⟩ := HFin.out _ (by first | exact (Below.refl _ _).drew.alloc (Nat.le_refl _) _ | exact ((Below.refl _ _).alloc (Nat.le_refl _) _).drew | exact (Below.refl _ _).alloc (Nat.le_refl _) _) gb cap1 w1 hown1 hg1 hl1 hl2
        refine hK.out _ _ trivial (fun hS => ?_)
        clear hown1 hg1 hl1 hl2
        clear hS hK K
        refine wpAnyH_take (i := 8) (v := .pointer (some ⟨gp, 0, none⟩)) rfl (by kernel_rfl) (by kernel_rfl) (by kernel_rfl) (fun _ _ _ h => h) (.inl ⟨by rfl, fun W hW => ?_⟩) trivial ?_
        · clear hW; go_simp
        simp only [Act.put, List.getElem_toArray, List.getElem_cons_succ, List.getElem_cons_zero, List.setIfInBounds_toArray, List.set_cons_zero, List.set_cons_succ]
        refine wpAnyH_take (i := 9) (v := .pointer (some ⟨gp, 17, none⟩)) rfl (by kernel_rfl) (by kernel_rfl) (by kernel_rfl) (fun _ _ _ h => h) (.inl ⟨by rfl, fun W hW => ?_⟩) trivial ?_
        · clear hW; go_simp
        simp only [Act.put, List.getElem_toArray, List.getElem_cons_succ, List.getElem_cons_zero, List.setIfInBounds_toArray, List.set_cons_zero, List.set_cons_succ]
        refine wpAnyH_ready (rs := [10]) (by kernel_rfl) (by simp) (AllReadyH.cons rfl (fun K hK => ?_) AllReadyH.nil)
        go_simp
        refine hK.out _ _ trivial (fun hS => ?_)
        clear hS hK K
        refine wpAnyH_done (by kernel_rfl) ?_ _
        go_wp2_with fail
        go_ret
        exact HF
      · refine step_bslice2 rfl 40 82 1 _ rfl [(0, .agg (trgA t))] rfl (trgA t) i0 (.agg #[.int .i64 0, .int .i64 0, .int .i64 0, .int .u64 0, .int .u64 0, .int .u64 0, .int .u64 0, .int .u64 0, .bool false, .bool false, .int .u64 0, .int .u64 0, .int .u64 0, .int .u64 0, .int .u64 0, .bool false, .bool false]) Tryd.underlying40 hi hz0 hsm hpo HFill.out (hK.out _ _ trivial (fun hS => ?_))
        clear hS hK K
        refine wpAnyH_ready (rs := [4]) (by kernel_rfl) (by simp) (AllReadyH.cons rfl (fun K hK => ?_) AllReadyH.nil)
        go_simp
        refine hK.out _ _ trivial (fun hS => ?_)
        clear hS hK K
        refine wpAnyH_ready (rs := [7]) (by kernel_rfl) (by simp) (AllReadyH.cons rfl (fun K hK => ?_) AllReadyH.nil)
        refine step_append_lies _ rfl (.tmp 226) (.tmp 228) 40 rfl 0 82 i0 (.agg #[.int .i64 0, .int .i64 0, .int .i64 0, .int .u64 0, .int .u64 0, .int .u64 0, .int .u64 0, .int .u64 0, .bool false, .bool false, .int .u64 0, .int .u64 0, .int .u64 0, .int .u64 0, .int .u64 0, .bool false, .bool false]) 17 120 Tryd.underlying40 hi hz0 hz1 hz2 rfl (by decide) v _ _ rfl (HO.out _ (by first | exact (Below.refl _ _).drew.alloc (Nat.le_refl _) _ | exact ((Below.refl _ _).alloc (Nat.le_refl _) _).drew | exact (Below.refl _ _).alloc (Nat.le_refl _) _)).owns ⟨W6.heap.size, 0, none⟩ 1 1 (Trg.enc t) rfl rfl (fun j u hu => by rw [Addr.add_lit, Nat.zero_add]; exact (show Tide.At _ W6.heap.size 82 (trgA t) by first | exact Tide.At.made _ _ _ | exact (Tide.At.made _ _ _).drew).here (by rw [trgA_enc, List.getElem?_toArray]; exact hu)) (enc_one t) (by decide) hm3.out hm4.out (Nat.zero_le _) _ rfl ?_
        intro gb cap1 w1 hown1 hg1 hl1 hl2
        obtain ⟨c9, f9, HF⟩ := HFin.out _ (by first | exact (Below.refl _ _).drew.alloc (Nat.le_refl _) _ | exact ((Below.refl _ _).alloc (Nat.le_refl _) _).drew | exact (Below.refl _ _).alloc (Nat.le_refl _) _) gb cap1 w1 hown1 hg1 hl1 hl2
        refine hK.out _ _ trivial (fun hS => ?_)
        clear hown1 hg1 hl1 hl2
        clear hS hK K
        refine wpAnyH_take (i := 8) (v := .pointer (some ⟨gp, 0, none⟩)) rfl (by kernel_rfl) (by kernel_rfl) (by kernel_rfl) (fun _ _ _ h => h) (.inl ⟨by rfl, fun W hW => ?_⟩) trivial ?_
        · clear hW; go_simp
        simp only [Act.put, List.getElem_toArray, List.getElem_cons_succ, List.getElem_cons_zero, List.setIfInBounds_toArray, List.set_cons_zero, List.set_cons_succ]
        refine wpAnyH_take (i := 9) (v := .pointer (some ⟨gp, 17, none⟩)) rfl (by kernel_rfl) (by kernel_rfl) (by kernel_rfl) (fun _ _ _ h => h) (.inl ⟨by rfl, fun W hW => ?_⟩) trivial ?_
        · clear hW; go_simp
        simp only [Act.put, List.getElem_toArray, List.getElem_cons_succ, List.getElem_cons_zero, List.setIfInBounds_toArray, List.set_cons_zero, List.set_cons_succ]
        refine wpAnyH_ready (rs := [10]) (by kernel_rfl) (by simp) (AllReadyH.cons rfl (fun K hK => ?_) AllReadyH.nil)
        go_simp
        refine hK.out _ _ trivial (fun hS => ?_)
        clear hS hK K
        refine wpAnyH_done (by kernel_rfl) ?_ _
        go_wp2_with fail
        go_ret
        exact HF
end Go.Proofs.YthelnkoohbnjpaaDoor
