/- Parts of this claim: DskH, DskV, DskA, DskR. -/
import Derived.Test.YtoidcbpcnikejaaGreatDoorDq44
import Derived.Test.YtoidcbpcnikejaaGreatDoorDq30
set_option linter.unusedVariables false
set_option linter.unusedSimpArgs false
set_option maxRecDepth 100000
set_option maxHeartbeats 12800000
namespace Go.Proofs.YtoidcbpcnikejaaGreatDoor
open Go.RowKit
theorem kind_in {v : ByteArray} {K : Int} {M : Nat} (h : kindN v = (K, M)) : (K = 0 ∧ M = 0) ∨ (1 ≤ K ∧ K ≤ 13 ∧ (M = 1 ∨ M = 2)) := by
 have hall : ∀ x ∈ kindT, 1 ≤ x.2.1 ∧ x.2.1 ≤ 13 ∧ (x.2.2 = 1 ∨ x.2.2 = 2) := by decide
 unfold kindN at h
 cases hf : kindT.find? (fun x => decide (x.1 = v)) with
 | none => rw [hf] at h; cases h; exact .inl ⟨rfl, rfl⟩
 | some x =>
  rw [hf] at h
  have h1 := hall x (List.mem_of_find?_eq_some hf)
  have e : x.2 = (K, M) := h
  rw [e] at h1; exact .inr h1
theorem happenA_no {d : Dk} {v : ByteArray} {ws : List ByteArray} {K : Int} {M : Nat} (h : kindN v = (K, M)) (hn : numsOk ws M = false) : happenA d v ws = (.fault 3 (-1), d) := by
 unfold happenA; rw [h, if_pos hn]
theorem happenA_none {d : Dk} {v : ByteArray} {ws : List ByteArray} {K : Int} {M : Nat} (h : kindN v = (K, M)) (hn : numsOk ws M = true) (hw : d.wo = none) : happenA d v ws = (.fault 7 (-1), d) := by
 unfold happenA; rw [h, if_neg (by rw [hn]; decide), hw]
theorem happenA_tell {d : Dk} {v : ByteArray} {ws : List ByteArray} {M : Nat} {m : Wo} (h : kindN v = (0, M)) (hn : numsOk ws M = true) (hw : d.wo = some m) : happenA d v ws = (.text (if v = vState then stateT m else asksT m), d) := by
 unfold happenA; rw [h, if_neg (by rw [hn]; decide), hw]; rfl
theorem happenA_do {d : Dk} {v : ByteArray} {ws : List ByteArray} {K : Int} {M : Nat} {m : Wo} {a n : Int} (h : kindN v = (K, M)) (hn : numsOk ws M = true) (hw : d.wo = some m) (hK : K ≠ 0) (ha : (if M = 2 then argV ws 0 else 0) = a) (hx : argV ws (M - 1) = n) :
  happenA d v ws = (chk (doE m K a n) dkOk, { d with wo := some (doW m K a n) }) := by
 unfold happenA; rw [h, if_neg (by rw [hn]; decide), hw]
 show (if K = 0 then _ else _) = _
 rw [if_neg hK]
 show (chk (doE m K (if M = 2 then argV ws 0 else 0) (argV ws (M - 1))) dkOk, _) = _
 rw [ha, hx]
theorem DkN.did {R R2 : Nat → Prop} {w W w' : World} {g : Nat} {d : Dk} {m' : Wo} {q : Wp} (h : DkN R w g d) (hb : Below w.heap.size w W) (hR2 : ∀ b, R b ∨ b = g → R2 b) (hc : WoC R2 W w' q m') (hat : G.At W g 32 #[.string d.text, .pointer (some ⟨q.g, 0, none⟩)]) :
  DkN R w' g { d with wo := some m' } ∧ G.Chg (fun b => ¬ R b) w w' := by
 have h1 := hb.size; have h2 := hc.2.size
 refine ⟨⟨⟨_, hat.chg hc.2 (fun hn => hn (hR2 g (.inr rfl))), .inr ⟨m', q, rfl, rfl, hc.1.mono hR2⟩⟩, fun b hb => ⟨by have := (h.lim b hb).1; omega, (h.lim b hb).2⟩⟩, (chgR_below hb).trans (hc.2.mono fun b _ hn hR => hn (hR2 b (.inl hR)))⟩
theorem deskHappen {R : Nat → Prop} {g : Nat} {d : Dk} {j : Nat} (v : ByteArray) (av : Value) (ws : List ByteArray) (w : World) (h : WdsIn w av ws) (hs : ∀ x ∈ ws, x.size ≤ 1000000) (hl : ws.length ≤ 1000000) (hD : DkN R w g d) (hk : d.ok j) (hj : j ≤ 284000) (hE : Env w) :
  Calls Tryz.prog 37 #[.pointer (some ⟨g, 0, none⟩), .string v, av] w (DkPost R w g (happenA d v ws)) := by
 obtain ⟨Y, M, hKM⟩ : ∃ Y M, kindN v = (Y, M) := ⟨_, _, rfl⟩
 have hM : M ≤ 100 := by rcases kind_in hKM with ⟨_, h⟩ | ⟨_, _, h | h⟩ <;> omega
 have HKd := J (show Calls Tryz.prog 38 #[.string v] w fun e w' => e = .returned (.tuple #[.int .i64 Y, .int .i64 (M : Int)]) ∧ w = w' from by
  have h := deskKind v w
  unfold KindPost at h
  rw [hKM] at h
  exact h)
 have HN := J (deskNumbers av ws M w h hs hl hM)
 have HE := J hE; have HD := J hD; have HBx := HD; have HK := J hKM; have HOd := J hk; have HJ := J hj
 obtain ⟨A0, cap0, rfl, _, _⟩ := h
 clear hD hk hj hE hs hl hM hKM
 go_enter Tryz.func37, Tryz.ntmps37
 go_wp2_with fail
 refine HKd.u.mono ?_
 rintro e w0 ⟨rfl, rfl⟩
 go_wp2_with fail
 refine HN.u.mono ?_
 rintro e w1 hN
 cases hN with
 | bad _ v3 hno he hb =>
  have HF := J (show DkPost R w g (happenA d v ws) (.returned (.tuple #[.string ⟨#[]⟩, v3])) w1 from by rw [happenA_no HK.u hno]; exact DkPost.of HD.u ⟨ans_fault he, hb⟩)
  obtain ⟨bf, rfl, _⟩ := he
  clear hno hb
  go_wp2_with fail
  go_ret2
  exact HF.u
 | good _ v3 hok hv hb =>
  have HB := J hb
  have HD1 := J (HD.u.below hb)
  have HE1 := J (HE.u.below hb)
  obtain ⟨wp, hat, hwo⟩ := HD1.u.ex
  have c1 := hat.here (i := 1) rfl
  have HAt := J hat
  clear hb hat HKd
  rcases hwo with ⟨hwn, rfl⟩ | ⟨m, q, hwm, rfl, hnw⟩
  ·have HF := J (happenA_none HK.u hok hwn)
   obtain ⟨A3, cap3, rfl, _, _, _⟩ := hv.slice
   clear hv hok hwn
   go_wp2_with fail
   refine (check_err (e := 7) (by decide) _).mono ?_
   rintro e w9 ⟨v9, rfl, he, hb9⟩
   have HG := J (show DkPost R w g (happenA d v ws) (.returned (.tuple #[.string ⟨#[]⟩, v9])) w9 from by rw [HF.u]; exact DkPost.of HD.u ⟨ans_fault he, HB.u.trans (hb9.mono HB.u.size)⟩)
   obtain ⟨bf, rfl, _⟩ := he
   clear hb9
   go_wp2_with fail
   go_ret2
   exact HG.u
  have HNw := J hnw
  have HOkw := J (HOd.u.2 m hwm)
  clear hnw
  rcases kind_in HK.u with ⟨rfl, rfl⟩ | ⟨K0, K1, hM⟩
  ·obtain ⟨A3, cap3, rfl, _, _, _⟩ := hv.slice
   have hF := happenA_tell HK.u hok hwm
   clear hv hok hwm HN HE
   by_cases hvs : v = vState
   ·rw [if_pos hvs] at hF
    have HF := J hF
    have q0 : (v.toList == [115, 116, 97, 116, 101]) = true := word_eq (y := vState) (by rw [ByteArray.toList_eq]; rfl) hvs
    clear hF hvs
    go_wp2_with fail
    refine (deskState (j := j) _ HAt.u (HNw.u.mono fun b hb => hb) HOkw.u.1 HOkw.u.2 HJ.u HE1.u.pow).mono ?_
    rintro e w9 ⟨rfl, hb9⟩
    have HG := J (show DkPost R w g (happenA d v ws) (.returned (.tuple #[.string (stateT m), .nilIface])) w9 from by rw [HF.u]; exact DkPost.of HD.u ⟨rfl, HB.u.trans (hb9.mono HB.u.size)⟩)
    clear hb9
    go_wp2_with fail
    go_ret2
    exact HG.u
   rw [if_neg hvs] at hF
   have HF := J hF
   have q0 : (v.toList == [115, 116, 97, 116, 101]) = false := word_ne (y := vState) (by rw [ByteArray.toList_eq]; rfl) hvs
   clear hF hvs
   go_wp2_with fail
   refine (deskAsks (j := j) _ HAt.u (HNw.u.mono fun b hb => hb) HOkw.u.1 HOkw.u.2 HE1.u.pow).mono ?_
   rintro e w9 ⟨rfl, hb9⟩
   have HG := J (show DkPost R w g (happenA d v ws) (.returned (.tuple #[.string (asksT m), .nilIface])) w9 from by rw [HF.u]; exact DkPost.of HD.u ⟨rfl, HB.u.trans (hb9.mono HB.u.size)⟩)
   clear hb9
   go_wp2_with fail
   go_ret2
   exact HG.u
  rcases hM with rfl | rfl
  ·skip
   have hlen := nums_len hok
   rw [hlen] at hv
   obtain ⟨b1, cap1, rfl, _, _, _, hr⟩ := hv.form (by decide)
   obtain ⟨n, hnv⟩ : ∃ n, argV ws 0 = n := ⟨_, rfl⟩
   have cn := hr.cell (arg_get hok (k := 0) (by decide))
   have hni := arg_in hok (k := 0) (by decide)
   rw [hnv] at cn hni
   have HF := J (happenA_do (a := 0) HK.u hok hwm (by omega) (by rfl) hnv)
   have hKb : (Y == 0) = false := by simp; omega
   have HDo := J (fun W R (h : WoN R W q m) => woDo Y 0 n h HOkw.u.1 HJ.u (by omega) (by omega))
   have hA0 := G.At.made w1 110 #[.int .i64 Y, .int .i64 0, .int .i64 n]
   have hB0 := (Below.refl w1.heap.size w1).alloc (Nat.le_refl _) (.cells #[.int .i64 Y, .int .i64 0, .int .i64 n] 110)
   have hD2 := HD1.u.below hB0
   have hat2 := HAt.u.below hB0 HAt.u.inside
   have hN2 := HNw.u.grow (G.Chg.of_below (S := fun _ => False) hB0 (Nat.le_refl _)) (fun _ h => h.elim)
   have HB2 := J (HB.u.trans (hB0.mono HB.u.size))
   have HG2 := J (show w1.heap.size < (w1.alloc (.cells #[.int .i64 Y, .int .i64 0, .int .i64 n] 110)).heap.size from hA0.inside)
   clear hlen hv hr hok hnv hni HN HK HD HE 
   go_upto_region 14 with fail
   generalize (w1.alloc (.cells #[.int .i64 Y, .int .i64 0, .int .i64 n] 110)) = W2 at hA0 hB0 hD2 hat2 hN2 HB2 HG2 ⊢
   have HA2 := J hA0; have HBl := J hB0; have HD2 := J hD2; have HAt2 := J hat2; have HN2 := J hN2
   have d1 := hat2.here (i := 1) rfl
   obtain ⟨gx, hgx⟩ : ∃ gx, w1.heap.size = gx := ⟨_, rfl⟩
   rw [hgx] at HA2 HN2 HG2 ⊢
   have x0 := HA2.u.here (i := 0) rfl; have x1 := HA2.u.here (i := 1) rfl; have x2 := HA2.u.here (i := 2) rfl
   clear hA0 hB0 hD2 hat2 hN2 cn  c1
   have hS : W2.cell? ⟨g, 1, none⟩ = some (.pointer (some ⟨q.g, 0, none⟩)) ∧ W2.cell? ⟨gx, 0, none⟩ = some (.int .i64 Y) ∧ W2.cell? ⟨gx, 1, none⟩ = some (.int .i64 0) ∧ W2.cell? ⟨gx, 2, none⟩ = some (.int .i64 n) := ⟨d1, x0, x1, x2⟩
   refine wp_region_held_drew (S := fun W => W.cell? ⟨g, 1, none⟩ = some (.pointer (some ⟨q.g, 0, none⟩)) ∧ W.cell? ⟨gx, 0, none⟩ = some (.int .i64 Y) ∧ W.cell? ⟨gx, 1, none⟩ = some (.int .i64 0) ∧ W.cell? ⟨gx, 2, none⟩ = some (.int .i64 n)) (by kernel_rfl) hS (fun _ => ?_)
   change wpAnyH _ _ _ _ _ 9 #[false, false, false, false, false, false, false, false, false] _ (World.drew _)
   refine tq 0 (.pointer (some ⟨g, 0, none⟩)) rfl (fun W hW => ?_) hS ?_
   ·obtain ⟨z0, z1, z2, z3⟩ := hW; go_simp
   simp only [Act.put, tkS]
   refine tq 1 (.pointer (some ⟨g, 0, none⟩)) rfl (fun W hW => ?_) hS ?_
   ·obtain ⟨z0, z1, z2, z3⟩ := hW; go_simp
   simp only [Act.put, tkS]
   refine tq 2 (.pointer (some ⟨g, 1, none⟩)) rfl (fun W hW => ?_) hS ?_
   ·obtain ⟨z0, z1, z2, z3⟩ := hW; go_simp
   simp only [Act.put, tkS]
   refine tq 3 (.pointer (some ⟨q.g, 0, none⟩)) rfl (fun W hW => ?_) hS ?_
   ·obtain ⟨z0, z1, z2, z3⟩ := hW; go_simp
   simp only [Act.put, tkS]
   refine tq 4 (.agg #[.int .i64 Y, .int .i64 0, .int .i64 n]) rfl (fun W hW => ?_) hS ?_
   ·obtain ⟨z0, z1, z2, z3⟩ := hW; go_simp
   simp only [Act.put, tkS]
   refine wpAnyH_ready (rs := [5]) (by kernel_rfl) (by simp) (AllReadyH.cons rfl (fun K hK => ?_) AllReadyH.nil)
   go_simp
   refine (HDo.u _ _ HN2.u.drew).mono ?_
   rintro e w6 ⟨rfl, hc⟩
   have hg2 : ¬ ¬ ((R g ∨ g = g) ∨ (gx ≤ g ∧ g < W2.heap.size)) := fun h => h (.inl (.inr rfl))
   have hx2 : ¬ ¬ ((R gx ∨ gx = g) ∨ (gx ≤ gx ∧ gx < W2.heap.size)) := fun h => h (.inr ⟨Nat.le_refl _, HG2.u⟩)
   have hAt6 := HAt2.u.drew.chg hc.2 hg2
   have hA6 := HA2.u.drew.chg hc.2 hx2
   have HD6 := J ((HBx.u.did (R2 := fun b => (R b ∨ b = g) ∨ (gx ≤ b ∧ b < W2.heap.size)) HB2.u.drew (fun b hb => .inl hb) hc HAt2.u.drew))
   have hS6 : w6.cell? ⟨g, 1, none⟩ = some (.pointer (some ⟨q.g, 0, none⟩)) ∧ w6.cell? ⟨gx, 0, none⟩ = some (.int .i64 Y) ∧ w6.cell? ⟨gx, 1, none⟩ = some (.int .i64 0) ∧ w6.cell? ⟨gx, 2, none⟩ = some (.int .i64 n) := ⟨hAt6.here (i := 1) rfl, hA6.here (i := 0) rfl, hA6.here (i := 1) rfl, hA6.here (i := 2) rfl⟩
   clear hc hg2 hx2 hAt6 hA6
   go_wp2_with fail
   refine hK.out _ _ hS6 (fun _ => ?_)
   clear hK K
   refine wpAnyH_ready (rs := [6]) (by kernel_rfl) (by simp) (AllReadyH.cons rfl (fun K hK => ?_) AllReadyH.nil)
   go_simp
   refine (checkOr _ _).mono ?_
   rintro e w7 ⟨v7, rfl, he7, hb7⟩
   have hS7 : w7.cell? ⟨g, 1, none⟩ = some (.pointer (some ⟨q.g, 0, none⟩)) ∧ w7.cell? ⟨gx, 0, none⟩ = some (.int .i64 Y) ∧ w7.cell? ⟨gx, 1, none⟩ = some (.int .i64 0) ∧ w7.cell? ⟨gx, 2, none⟩ = some (.int .i64 n) := ⟨cell_b hS6.1 hb7, cell_b hS6.2.1 hb7, cell_b hS6.2.2.1 hb7, cell_b hS6.2.2.2 hb7⟩
   have HG := J (show DkPost R w g (happenA d v ws) (.returned (.tuple #[.string ⟨#[111, 107]⟩, v7])) w7 from by rw [HF.u]; exact ⟨ans_or he7, HD6.u.1.below hb7, HD6.u.2.trans (chgR_below hb7)⟩)
   clear he7 hb7
   go_wp2_with fail
   refine hK.out _ _ hS7 (fun _ => ?_)
   clear hK K
   refine tq 7 (.string ⟨#[111, 107]⟩) rfl (fun W hW => ?_) hS7 ?_
   ·obtain ⟨z0, z1, z2, z3⟩ := hW; go_simp
   simp only [Act.put, tkS]
   refine tq 8 v7 rfl (fun W hW => ?_) hS7 ?_
   ·obtain ⟨z0, z1, z2, z3⟩ := hW; go_simp
   simp only [Act.put, tkS]
   clear hS hS6 hS7 d1 x0 x1 x2
   refine wpAnyH_done (by kernel_rfl) ?_ _
   go_wp2_with fail
   go_ret2
   exact HG.u
  skip
  have hlen := nums_len hok
  rw [hlen] at hv
  obtain ⟨b1, cap1, rfl, _, _, _, hr⟩ := hv.form (by decide)
  obtain ⟨n, hnv⟩ : ∃ n, argV ws 1 = n := ⟨_, rfl⟩
  have cn := hr.cell (arg_get hok (k := 1) (by decide))
  have hni := arg_in hok (k := 1) (by decide)
  rw [hnv] at cn hni
  obtain ⟨a, hav⟩ : ∃ a, argV ws 0 = a := ⟨_, rfl⟩
  have ca := hr.cell (arg_get hok (k := 0) (by decide))
  rw [hav] at ca
  have HF := J (happenA_do (a := a) HK.u hok hwm (by omega) (by rw [if_pos rfl]; exact hav) hnv)
  have hKb : (Y == 0) = false := by simp; omega
  have HDo := J (fun W R (h : WoN R W q m) => woDo Y a n h HOkw.u.1 HJ.u (by omega) (by omega))
  have ca2 := cell_b ca ((Below.refl w1.heap.size w1).alloc (Nat.le_refl _) (.cells #[.int .i64 Y, .int .i64 0, .int .i64 n] 110))
  have f2 := (G.At.made w1 110 #[.int .i64 Y, .int .i64 0, .int .i64 n]).soft 1
  have hA0 := G.At.made w1 110 #[.int .i64 Y, .int .i64 a, .int .i64 n]
  have hB0 := (Below.refl w1.heap.size w1).alloc (Nat.le_refl _) (.cells #[.int .i64 Y, .int .i64 a, .int .i64 n] 110)
  have hD2 := HD1.u.below hB0
  have hat2 := HAt.u.below hB0 HAt.u.inside
  have hN2 := HNw.u.grow (G.Chg.of_below (S := fun _ => False) hB0 (Nat.le_refl _)) (fun _ h => h.elim)
  have HB2 := J (HB.u.trans (hB0.mono HB.u.size))
  have HG2 := J (show w1.heap.size < (w1.alloc (.cells #[.int .i64 Y, .int .i64 a, .int .i64 n] 110)).heap.size from hA0.inside)
  clear hlen hv hr hok hnv hni HN HK HD HE hav
  go_upto_region 14 with fail
  generalize (w1.alloc (.cells #[.int .i64 Y, .int .i64 a, .int .i64 n] 110)) = W2 at hA0 hB0 hD2 hat2 hN2 HB2 HG2 ⊢
  have HA2 := J hA0; have HBl := J hB0; have HD2 := J hD2; have HAt2 := J hat2; have HN2 := J hN2
  have d1 := hat2.here (i := 1) rfl
  obtain ⟨gx, hgx⟩ : ∃ gx, w1.heap.size = gx := ⟨_, rfl⟩
  rw [hgx] at HA2 HN2 HG2 ⊢
  have x0 := HA2.u.here (i := 0) rfl; have x1 := HA2.u.here (i := 1) rfl; have x2 := HA2.u.here (i := 2) rfl
  clear hA0 hB0 hD2 hat2 hN2 cn ca ca2 f2 c1
  have hS : W2.cell? ⟨g, 1, none⟩ = some (.pointer (some ⟨q.g, 0, none⟩)) ∧ W2.cell? ⟨gx, 0, none⟩ = some (.int .i64 Y) ∧ W2.cell? ⟨gx, 1, none⟩ = some (.int .i64 a) ∧ W2.cell? ⟨gx, 2, none⟩ = some (.int .i64 n) := ⟨d1, x0, x1, x2⟩
  refine wp_region_held_drew (S := fun W => W.cell? ⟨g, 1, none⟩ = some (.pointer (some ⟨q.g, 0, none⟩)) ∧ W.cell? ⟨gx, 0, none⟩ = some (.int .i64 Y) ∧ W.cell? ⟨gx, 1, none⟩ = some (.int .i64 a) ∧ W.cell? ⟨gx, 2, none⟩ = some (.int .i64 n)) (by kernel_rfl) hS (fun _ => ?_)
  change wpAnyH _ _ _ _ _ 9 #[false, false, false, false, false, false, false, false, false] _ (World.drew _)
  refine tq 0 (.pointer (some ⟨g, 0, none⟩)) rfl (fun W hW => ?_) hS ?_
  ·obtain ⟨z0, z1, z2, z3⟩ := hW; go_simp
  simp only [Act.put, tkS]
  refine tq 1 (.pointer (some ⟨g, 0, none⟩)) rfl (fun W hW => ?_) hS ?_
  ·obtain ⟨z0, z1, z2, z3⟩ := hW; go_simp
  simp only [Act.put, tkS]
  refine tq 2 (.pointer (some ⟨g, 1, none⟩)) rfl (fun W hW => ?_) hS ?_
  ·obtain ⟨z0, z1, z2, z3⟩ := hW; go_simp
  simp only [Act.put, tkS]
  refine tq 3 (.pointer (some ⟨q.g, 0, none⟩)) rfl (fun W hW => ?_) hS ?_
  ·obtain ⟨z0, z1, z2, z3⟩ := hW; go_simp
  simp only [Act.put, tkS]
  refine tq 4 (.agg #[.int .i64 Y, .int .i64 a, .int .i64 n]) rfl (fun W hW => ?_) hS ?_
  ·obtain ⟨z0, z1, z2, z3⟩ := hW; go_simp
  simp only [Act.put, tkS]
  refine wpAnyH_ready (rs := [5]) (by kernel_rfl) (by simp) (AllReadyH.cons rfl (fun K hK => ?_) AllReadyH.nil)
  go_simp
  refine (HDo.u _ _ HN2.u.drew).mono ?_
  rintro e w6 ⟨rfl, hc⟩
  have hg2 : ¬ ¬ ((R g ∨ g = g) ∨ (gx ≤ g ∧ g < W2.heap.size)) := fun h => h (.inl (.inr rfl))
  have hx2 : ¬ ¬ ((R gx ∨ gx = g) ∨ (gx ≤ gx ∧ gx < W2.heap.size)) := fun h => h (.inr ⟨Nat.le_refl _, HG2.u⟩)
  have hAt6 := HAt2.u.drew.chg hc.2 hg2
  have hA6 := HA2.u.drew.chg hc.2 hx2
  have HD6 := J ((HBx.u.did (R2 := fun b => (R b ∨ b = g) ∨ (gx ≤ b ∧ b < W2.heap.size)) HB2.u.drew (fun b hb => .inl hb) hc HAt2.u.drew))
  have hS6 : w6.cell? ⟨g, 1, none⟩ = some (.pointer (some ⟨q.g, 0, none⟩)) ∧ w6.cell? ⟨gx, 0, none⟩ = some (.int .i64 Y) ∧ w6.cell? ⟨gx, 1, none⟩ = some (.int .i64 a) ∧ w6.cell? ⟨gx, 2, none⟩ = some (.int .i64 n) := ⟨hAt6.here (i := 1) rfl, hA6.here (i := 0) rfl, hA6.here (i := 1) rfl, hA6.here (i := 2) rfl⟩
  clear hc hg2 hx2 hAt6 hA6
  go_wp2_with fail
  refine hK.out _ _ hS6 (fun _ => ?_)
  clear hK K
  refine wpAnyH_ready (rs := [6]) (by kernel_rfl) (by simp) (AllReadyH.cons rfl (fun K hK => ?_) AllReadyH.nil)
  go_simp
  refine (checkOr _ _).mono ?_
  rintro e w7 ⟨v7, rfl, he7, hb7⟩
  have hS7 : w7.cell? ⟨g, 1, none⟩ = some (.pointer (some ⟨q.g, 0, none⟩)) ∧ w7.cell? ⟨gx, 0, none⟩ = some (.int .i64 Y) ∧ w7.cell? ⟨gx, 1, none⟩ = some (.int .i64 a) ∧ w7.cell? ⟨gx, 2, none⟩ = some (.int .i64 n) := ⟨cell_b hS6.1 hb7, cell_b hS6.2.1 hb7, cell_b hS6.2.2.1 hb7, cell_b hS6.2.2.2 hb7⟩
  have HG := J (show DkPost R w g (happenA d v ws) (.returned (.tuple #[.string ⟨#[111, 107]⟩, v7])) w7 from by rw [HF.u]; exact ⟨ans_or he7, HD6.u.1.below hb7, HD6.u.2.trans (chgR_below hb7)⟩)
  clear he7 hb7
  go_wp2_with fail
  refine hK.out _ _ hS7 (fun _ => ?_)
  clear hK K
  refine tq 7 (.string ⟨#[111, 107]⟩) rfl (fun W hW => ?_) hS7 ?_
  ·obtain ⟨z0, z1, z2, z3⟩ := hW; go_simp
  simp only [Act.put, tkS]
  refine tq 8 v7 rfl (fun W hW => ?_) hS7 ?_
  ·obtain ⟨z0, z1, z2, z3⟩ := hW; go_simp
  simp only [Act.put, tkS]
  clear hS hS6 hS7 d1 x0 x1 x2
  refine wpAnyH_done (by kernel_rfl) ?_ _
  go_wp2_with fail
  go_ret2
  exact HG.u
open Go.RowKit
theorem AnsIs.form {w : World} {e : Ending} {a : Ans} (h : AnsIs w e a) : ∃ s v, e = .returned (.tuple #[.string s, v]) := by
 cases a with
 | text s => exact ⟨s, _, h⟩
 | fault x a => obtain ⟨s, v, h, _⟩ := h; exact ⟨s, v, h⟩
theorem WdsIn.slice {w : World} {v : Value} {ws : List ByteArray} (h : WdsIn w v ws) : ∃ A cap, v = .slice A ws.length cap := by obtain ⟨A, cap, e, _⟩ := h; exact ⟨A, cap, e⟩
theorem doA_date {d : Dk} {v : ByteArray} {ws : List ByteArray} (h : v = vDate) : doA d v ws = (dateA ws, d) := by unfold doA; rw [if_pos h]
theorem doA_next {d : Dk} {v : ByteArray} {ws : List ByteArray} (h : v = vNext) : doA d v ws = (nextA ws, d) := by subst h; rfl
theorem doA_plan {d : Dk} {v : ByteArray} {ws : List ByteArray} (h : v = vPlan) : doA d v ws = moreA d ws := by subst h; rfl
theorem doA_world {d : Dk} {v : ByteArray} {ws : List ByteArray} (h : v = vWorld) : doA d v ws = madeA d ws := by subst h; rfl
theorem doA_some {d : Dk} {v : ByteArray} {ws : List ByteArray} (h : v = vClear ∨ v = vShow) (hw : ws ≠ []) : doA d v ws = (.fault 3 (-1), d) := by
 rcases h with rfl | rfl
 ·show (if ws ≠ [] then _ else _) = _; rw [if_pos hw]
 show (if ws ≠ [] then _ else _) = _; rw [if_pos hw]
theorem doA_show {d : Dk} {v : ByteArray} (h : v = vShow) : doA d v [] = (showA d, d) := by subst h; rfl
theorem doA_clear {d : Dk} {v : ByteArray} (h : v = vClear) : doA d v [] = (.text dkOk, { d with text := ⟨#[]⟩ }) := by subst h; rfl
theorem doA_tell {d : Dk} {v : ByteArray} {ws : List ByteArray} (h : v = vState ∨ v = vAsks) : doA d v ws = happenA d v ws := by
 rcases h with rfl | rfl <;> rfl
theorem doA_rest {d : Dk} {v : ByteArray} {ws : List ByteArray} (h0 : v ≠ vDate) (h1 : v ≠ vNext) (h2 : v ≠ vPlan) (h3 : v ≠ vWorld) (h4 : v ≠ vClear) (h5 : v ≠ vShow) (h6 : v ≠ vState) (h7 : v ≠ vAsks) : doA d v ws = if 0 < (kindN v).1 then happenA d v ws else (.fault 3 (-1), d) := by
 unfold doA
 rw [if_neg h0, if_neg h1, if_neg h2, if_neg h3, if_neg (by rintro (h | h); exact h4 h; exact h5 h), if_neg (by rintro (h | h); exact h6 h; exact h7 h)]
theorem deskDo {R : Nat → Prop} {g : Nat} {d : Dk} {j : Nat} (v : ByteArray) (av : Value) (ws : List ByteArray) (w : World) (h : WdsIn w av ws) (hs : ∀ x ∈ ws, x.size ≤ 1000000) (hl : ws.length ≤ 1000000) (hD : DkN R w g d) (hk : d.ok j) (hj : j ≤ 284000) (hE : Env w) :
  Calls Tryz.prog 24 #[.pointer (some ⟨g, 0, none⟩), .string v, av] w (DkPost R w g (doA d v ws)) := by
 have HW := J h; have HS := J hs; have HL := J hl; have HD := J hD; have HK := J hk; have HJ := J hj; have HE := J hE
 obtain ⟨A0, cap0, hav⟩ := h.slice
 subst hav
 clear h hs hl hD hk hj hE
 by_cases h0 : v = vDate
 ·have HC := J (show Calls Tryz.prog 31 #[.slice A0 ws.length cap0] w (DkPost R w g (doA d v ws)) from by rw [doA_date h0]; exact (deskDate (.slice A0 ws.length cap0) ws w HW.u HS.u HL.u HE.u.pow).mono fun _ _ hp => DkPost.of HD.u hp)
  have q0 : (v.toList == [100, 97, 116, 101]) = true := word_eq (y := vDate) (by rw [ByteArray.toList_eq]; rfl) h0
  clear HW HS HL HK HJ HE HD
  clear h0
  go_enter Tryz.func24, Tryz.ntmps24
  go_wp2_with fail
  refine HC.u.mono ?_
  rintro e w2 hp
  obtain ⟨s, x, rfl⟩ := hp.ans.form
  have HP := J hp
  clear hp
  go_wp2_with fail
  go_ret2
  exact HP.u
 have q0 : (v.toList == [100, 97, 116, 101]) = false := word_ne (y := vDate) (by rw [ByteArray.toList_eq]; rfl) h0
 by_cases h1 : v = vNext
 ·have HC := J (show Calls Tryz.prog 32 #[.slice A0 ws.length cap0] w (DkPost R w g (doA d v ws)) from by rw [doA_next h1]; exact (deskNext (.slice A0 ws.length cap0) ws w HW.u HS.u HL.u HE.u).mono fun _ _ hp => DkPost.of HD.u hp)
  have q1 : (v.toList == [110, 101, 120, 116]) = true := word_eq (y := vNext) (by rw [ByteArray.toList_eq]; rfl) h1
  clear HW HS HL HK HJ HE HD
  clear h1
  go_enter Tryz.func24, Tryz.ntmps24
  go_wp2_with fail
  refine HC.u.mono ?_
  rintro e w2 hp
  obtain ⟨s, x, rfl⟩ := hp.ans.form
  have HP := J hp
  clear hp
  go_wp2_with fail
  go_ret2
  exact HP.u
 have q1 : (v.toList == [110, 101, 120, 116]) = false := word_ne (y := vNext) (by rw [ByteArray.toList_eq]; rfl) h1
 by_cases h2 : v = vPlan
 ·have HC := J (show Calls Tryz.prog 33 #[.pointer (some ⟨g, 0, none⟩), .slice A0 ws.length cap0] w (DkPost R w g (doA d v ws)) from by rw [doA_plan h2]; exact deskMore (.slice A0 ws.length cap0) ws w HW.u HS.u HL.u HD.u HK.u.1)
  have q2 : (v.toList == [112, 108, 97, 110]) = true := word_eq (y := vPlan) (by rw [ByteArray.toList_eq]; rfl) h2
  clear HW HS HL HK HJ HE HD
  clear h2
  go_enter Tryz.func24, Tryz.ntmps24
  go_wp2_with fail
  refine HC.u.mono ?_
  rintro e w2 hp
  obtain ⟨s, x, rfl⟩ := hp.ans.form
  have HP := J hp
  clear hp
  go_wp2_with fail
  go_ret2
  exact HP.u
 have q2 : (v.toList == [112, 108, 97, 110]) = false := word_ne (y := vPlan) (by rw [ByteArray.toList_eq]; rfl) h2
 by_cases h3 : v = vWorld
 ·have HC := J (show Calls Tryz.prog 34 #[.pointer (some ⟨g, 0, none⟩), .slice A0 ws.length cap0] w (DkPost R w g (doA d v ws)) from by rw [doA_world h3]; exact deskMade (.slice A0 ws.length cap0) ws w HW.u HS.u HL.u HD.u HK.u.1 HE.u)
  have q3 : (v.toList == [119, 111, 114, 108, 100]) = true := word_eq (y := vWorld) (by rw [ByteArray.toList_eq]; rfl) h3
  clear HW HS HL HK HJ HE HD
  clear h3
  go_enter Tryz.func24, Tryz.ntmps24
  go_wp2_with fail
  refine HC.u.mono ?_
  rintro e w2 hp
  obtain ⟨s, x, rfl⟩ := hp.ans.form
  have HP := J hp
  clear hp
  go_wp2_with fail
  go_ret2
  exact HP.u
 have q3 : (v.toList == [119, 111, 114, 108, 100]) = false := word_ne (y := vWorld) (by rw [ByteArray.toList_eq]; rfl) h3
 by_cases h4 : v = vClear
 ·have q4 : (v.toList == [99, 108, 101, 97, 114]) = true := word_eq (y := vClear) (by rw [ByteArray.toList_eq]; rfl) h4
  have q5 : (v.toList == [115, 104, 111, 119]) = false := word_ne (y := vShow) (by rw [ByteArray.toList_eq]; rfl) (by rw [h4]; decide)
  by_cases hw : ws = []
  ·have hz : ¬ (0 : Int) < (ws.length : Int) := by rw [hw]; simp
   have HF := J (show doA d v ws = (.text dkOk, { d with text := ⟨#[]⟩ }) from by rw [hw]; exact doA_clear h4)
   obtain ⟨wp, hat, _⟩ := HD.u.ex
   have c0 := hat.here (i := 0) rfl
   have f0 := hat.soft 0
   clear hat hw h4 HW HS HL HK HJ HE
   go_enter Tryz.func24, Tryz.ntmps24
   go_wp2_with fail
   go_ret2
   rw [HF.u]
   exact ⟨rfl, (HD.u.put _).1, (HD.u.put _).2⟩
  have hz : (0 : Int) < (ws.length : Int) := by have := List.length_pos_iff.2 hw; omega
  have HF := J (doA_some (d := d) (.inl h4) hw)
  clear hw h4 HW HS HL HK HJ HE
  go_enter Tryz.func24, Tryz.ntmps24
  go_wp2_with fail
  refine (check_err (e := 3) (by decide) _).mono ?_
  rintro e w9 ⟨v9, rfl, he, hb9⟩
  have HG := J (show DkPost R w g (doA d v ws) (.returned (.tuple #[.string ⟨#[]⟩, v9])) w9 from by rw [HF.u]; exact DkPost.of HD.u ⟨ans_fault he, hb9⟩)
  obtain ⟨bf, rfl, _⟩ := he
  clear hb9
  go_wp2_with fail
  go_ret2
  exact HG.u
 have q4 : (v.toList == [99, 108, 101, 97, 114]) = false := word_ne (y := vClear) (by rw [ByteArray.toList_eq]; rfl) h4
 by_cases h5 : v = vShow
 ·have q5 : (v.toList == [115, 104, 111, 119]) = true := word_eq (y := vShow) (by rw [ByteArray.toList_eq]; rfl) h5
  by_cases hw : ws = []
  ·have hz : ¬ (0 : Int) < (ws.length : Int) := by rw [hw]; simp
   have HC := J (show Calls Tryz.prog 36 #[.pointer (some ⟨g, 0, none⟩)] w (DkPost R w g (doA d v ws)) from by rw [hw, doA_show h5]; exact (deskShow w HD.u HK.u.1 HE.u).mono fun _ _ hp => DkPost.of HD.u hp)
   clear hw h5 HW HS HL HK HJ HE HD
   go_enter Tryz.func24, Tryz.ntmps24
   go_wp2_with fail
   refine HC.u.mono ?_
   rintro e w2 hp
   obtain ⟨s, x, rfl⟩ := hp.ans.form
   have HP := J hp
   clear hp
   go_wp2_with fail
   go_ret2
   exact HP.u
  have hz : (0 : Int) < (ws.length : Int) := by have := List.length_pos_iff.2 hw; omega
  have HF := J (doA_some (d := d) (.inr h5) hw)
  clear hw h5 HW HS HL HK HJ HE
  go_enter Tryz.func24, Tryz.ntmps24
  go_wp2_with fail
  refine (check_err (e := 3) (by decide) _).mono ?_
  rintro e w9 ⟨v9, rfl, he, hb9⟩
  have HG := J (show DkPost R w g (doA d v ws) (.returned (.tuple #[.string ⟨#[]⟩, v9])) w9 from by rw [HF.u]; exact DkPost.of HD.u ⟨ans_fault he, hb9⟩)
  obtain ⟨bf, rfl, _⟩ := he
  clear hb9
  go_wp2_with fail
  go_ret2
  exact HG.u
 have q5 : (v.toList == [115, 104, 111, 119]) = false := word_ne (y := vShow) (by rw [ByteArray.toList_eq]; rfl) h5
 by_cases h6 : v = vState
 ·have HC := J (show Calls Tryz.prog 37 #[.pointer (some ⟨g, 0, none⟩), .string v, .slice A0 ws.length cap0] w (DkPost R w g (doA d v ws)) from by rw [doA_tell (.inl h6)]; exact deskHappen v (.slice A0 ws.length cap0) ws w HW.u HS.u HL.u HD.u HK.u HJ.u HE.u)
  have q6 : (v.toList == [115, 116, 97, 116, 101]) = true := word_eq (y := vState) (by rw [ByteArray.toList_eq]; rfl) h6
  have q7 : (v.toList == [97, 115, 107, 115]) = false := word_ne (y := vAsks) (by rw [ByteArray.toList_eq]; rfl) (by rw [h6]; decide)
  clear HW HS HL HK HJ HE HD
  clear h6
  go_enter Tryz.func24, Tryz.ntmps24
  go_wp2_with fail
  refine HC.u.mono ?_
  rintro e w2 hp
  obtain ⟨s, x, rfl⟩ := hp.ans.form
  have HP := J hp
  clear hp
  go_wp2_with fail
  go_ret2
  exact HP.u
 have q6 : (v.toList == [115, 116, 97, 116, 101]) = false := word_ne (y := vState) (by rw [ByteArray.toList_eq]; rfl) h6
 by_cases h7 : v = vAsks
 ·have HC := J (show Calls Tryz.prog 37 #[.pointer (some ⟨g, 0, none⟩), .string v, .slice A0 ws.length cap0] w (DkPost R w g (doA d v ws)) from by rw [doA_tell (.inr h7)]; exact deskHappen v (.slice A0 ws.length cap0) ws w HW.u HS.u HL.u HD.u HK.u HJ.u HE.u)
  have q7 : (v.toList == [97, 115, 107, 115]) = true := word_eq (y := vAsks) (by rw [ByteArray.toList_eq]; rfl) h7
  clear HW HS HL HK HJ HE HD
  clear h7
  go_enter Tryz.func24, Tryz.ntmps24
  go_wp2_with fail
  refine HC.u.mono ?_
  rintro e w2 hp
  obtain ⟨s, x, rfl⟩ := hp.ans.form
  have HP := J hp
  clear hp
  go_wp2_with fail
  go_ret2
  exact HP.u
 have q7 : (v.toList == [97, 115, 107, 115]) = false := word_ne (y := vAsks) (by rw [ByteArray.toList_eq]; rfl) h7
 have hF := doA_rest (d := d) (ws := ws) h0 h1 h2 h3 h4 h5 h6 h7
 obtain ⟨K, M, hKM⟩ : ∃ K M, kindN v = (K, M) := ⟨_, _, rfl⟩
 have HKd := J (show Calls Tryz.prog 38 #[.string v] w fun e w' => e = .returned (.tuple #[.int .i64 K, .int .i64 (M : Int)]) ∧ w = w' from by
  have h := deskKind v w
  unfold KindPost at h
  rw [hKM] at h
  exact h)
 rw [hKM] at hF
 by_cases hK : 0 < K
 ·rw [if_pos hK] at hF
  have HC := J (show Calls Tryz.prog 37 #[.pointer (some ⟨g, 0, none⟩), .string v, .slice A0 ws.length cap0] w (DkPost R w g (doA d v ws)) from by rw [hF]; exact deskHappen v (.slice A0 ws.length cap0) ws w HW.u HS.u HL.u HD.u HK.u HJ.u HE.u)
  clear hF hKM h0 h1 h2 h3 h4 h5 h6 h7 HW HS HL HK HJ HE HD
  go_enter Tryz.func24, Tryz.ntmps24
  go_wp2_with fail
  refine HKd.u.mono ?_
  rintro e w0 ⟨rfl, rfl⟩
  go_wp2_with fail
  refine HC.u.mono ?_
  rintro e w2 hp
  obtain ⟨s, x, rfl⟩ := hp.ans.form
  have HP := J hp
  clear hp
  go_wp2_with fail
  go_ret2
  exact HP.u
 rw [if_neg hK] at hF
 have HF := J hF
 clear hF hKM h0 h1 h2 h3 h4 h5 h6 h7 HW HS HL HK HJ HE
 go_enter Tryz.func24, Tryz.ntmps24
 go_wp2_with fail
 refine HKd.u.mono ?_
 rintro e w0 ⟨rfl, rfl⟩
 go_wp2_with fail
 refine (check_err (e := 3) (by decide) _).mono ?_
 rintro e w9 ⟨v9, rfl, he, hb9⟩
 have HG := J (show DkPost R w g (doA d v ws) (.returned (.tuple #[.string ⟨#[]⟩, v9])) w9 from by rw [HF.u]; exact DkPost.of HD.u ⟨ans_fault he, hb9⟩)
 obtain ⟨bf, rfl, _⟩ := he
 clear hb9
 go_wp2_with fail
 go_ret2
 exact HG.u
open Go.RowKit
theorem errAs_at (e : Addr) (gf : Nat) (old : Value) (w : World) (hE : Env w) (ha : G.At w gf 50 #[old]) : Calls Tryz.prog 25 #[.iface 50 (.pointer (some e)), .iface 52 (.pointer (some ⟨gf, 0, none⟩))] w fun ev w' => ev = .returned (.bool true) ∧ G.At w' gf 50 #[.pointer (some e)] ∧ G.Chg (fun b => b = gf) w w' := by
 refine (errAs_hit e ⟨gf, 0, none⟩ old w hE.err (ha.here (i := 0) rfl) (ha.soft 0)).mono ?_
 rintro ev w' ⟨rfl, rfl⟩
 exact ⟨rfl, ((((ha.alloc _).alloc _).alloc _).alloc _).put 0 _, (((((G.Chg.refl (fun b => b = gf) w).alloc _).alloc _).alloc _).alloc _).put (p := ⟨gf, 0, none⟩) (.inl rfl) _⟩
structure LnPost (R : Nat → Prop) (w : World) (g : Nat) (x : Ans × Dk) (e : Ending) (w' : World) : Prop where
 ans : e = .returned (.string x.1.say)
 dk : DkN R w' g x.2
 chg : G.Chg (fun b => ¬ R b) w w'
theorem LnPost.of {R : Nat → Prop} {w w1 w' : World} {g : Nat} {x : Ans × Dk} {e : Ending} (h1 : DkN R w1 g x.2) (h2 : G.Chg (fun b => ¬ R b) w w1) (hb : Below w1.heap.size w1 w') (he : e = .returned (.string x.1.say)) : LnPost R w g x e w' := ⟨he, h1.below hb, h2.trans (chgR_below hb)⟩
theorem out_pos {x a : Int} (h : 0 ≤ a) : (Ans.fault x a).say = (⟨#[101, 114, 114, 111, 114, 32]⟩ ++ G.itoB x) ++ (⟨#[32]⟩ ++ G.itoB a) := if_pos h
theorem out_neg {x a : Int} (h : ¬ 0 ≤ a) : (Ans.fault x a).say = ⟨#[101, 114, 114, 111, 114, 32]⟩ ++ G.itoB x := if_neg h
theorem below_chg {g : Nat} {a w w' : World} (h : Below a.heap.size a w) (hc : G.Chg (fun b => b = g) w w') (hg : a.heap.size ≤ g) : Below a.heap.size a w' := h.trans (hc.below h.size fun k hk e => by omega)
theorem deskAnswer {R : Nat → Prop} {g : Nat} {d : Dk} {j : Nat} (av : Value) (w0 : ByteArray) (ws : List ByteArray) (w : World) (h : WdsIn w av (w0 :: ws)) (hR : ∀ b off n c, av = .slice (some ⟨b, off, none⟩) n c → R b) (hG : ∀ b, b < 7 → R b) (hs : ∀ x ∈ w0 :: ws, x.size ≤ 1000000) (hl : (w0 :: ws).length ≤ 1000000) (hD : DkN R w g d) (hk : d.ok j) (hj : j ≤ 284000) (hE : Env w) :
  Calls Tryz.prog 14 #[.pointer (some ⟨g, 0, none⟩), av] w (LnPost R w g (doA d w0 ws)) := by
 have hfine := doA_fine hk hj w0 ws
 obtain ⟨A, cap, rfl, hcap, hA⟩ := h
 obtain ⟨b, off, rfl, hW⟩ := hA (by simp)
 have hRb := hR b off _ _ rfl
 have c0 : w.cell? ⟨b, off, none⟩ = some (.string w0) := hW.cell 0 w0 rfl
 obtain ⟨N, hN⟩ : ∃ N, (w0 :: ws).length = N := ⟨_, rfl⟩
 rw [hN] at hcap ⊢
 have hN2 : ws.length = N - 1 := by rw [← hN]; rfl
 have hN0 : 0 < N := by rw [← hN]; exact Nat.zero_lt_succ _
 have i0 : (0 : Int) < (N : Int) := by omega
 have nz : ¬ N = 0 := by omega
 obtain ⟨o, hco⟩ : ∃ o, (cap = 1 ∧ o = off) ∨ (¬ cap = 1 ∧ o = off + 1) := by
  by_cases h : cap = 1
  ·exact ⟨_, .inl ⟨h, rfl⟩⟩
  exact ⟨_, .inr ⟨h, rfl⟩⟩
 have i1 : (1 : Int) ≤ (N : Int) := by omega
 have i2 : (N : Int) ≤ (cap : Int) := by omega
 have HDo := J (show ∀ W, WdsAt W b off (w0 :: ws) → DkN R W g d → Env W → Calls Tryz.prog 24 #[.pointer (some ⟨g, 0, none⟩), .string w0, .slice (some ⟨b, o, none⟩) (N - 1) (cap - 1)] W (DkPost R W g (doA d w0 ws)) from fun W hw hd he =>
  deskDo w0 _ ws W ⟨_, _, by rw [hN2], by omega, fun h0 => ⟨b, off + 1, by rcases hco with ⟨h1, h2⟩ | ⟨h1, h2⟩; exact absurd h0 (by omega); rw [h2], hw.drop 1⟩⟩ (fun x hx => hs x (List.mem_cons_of_mem _ hx)) (by simp only [List.length_cons] at hl; omega) hd hk hj he)
 have HW := J hW; have HD := J hD; have HE := J hE; have HRb := J hRb; have HG0 := J hG
 generalize doA d w0 ws = X at hfine HDo ⊢
 obtain ⟨a, d'⟩ := X
 have HFi := J hfine
 clear hfine hA hR hG hs hl hD hk hj hE hW hRb hN hN2 hN0 hcap
 go_enter Tryz.func14, Tryz.ntmps14
 go_upto_region 1 with fail
 have hS : w.cell? ⟨b, off, none⟩ = some (.string w0) ∧ True := ⟨c0, trivial⟩
 refine wp_region_held_drew (S := fun W => W.cell? ⟨b, off, none⟩ = some (.string w0) ∧ True) (by kernel_rfl) hS (fun _ => ?_)
 change wpAnyH _ _ _ _ _ 12 #[false, false, false, false, false, false, false, false, false, false, false, false] _ (World.drew _)
 refine tq 0 (.pointer (some ⟨g, 0, none⟩)) rfl (fun W hW => ?_) hS ?_
 ·obtain ⟨z0, z1⟩ := hW; go_simp
 simp only [Act.put, tkS]
 refine tq 1 (.slice (some ⟨b, off, none⟩) N cap) rfl (fun W hW => ?_) hS ?_
 ·obtain ⟨z0, z1⟩ := hW; go_simp
 simp only [Act.put, tkS]
 refine tq 2 (.pointer (some ⟨b, off, none⟩)) rfl (fun W hW => ?_) hS ?_
 ·obtain ⟨z0, z1⟩ := hW; go_simp
 simp only [Act.put, tkS]
 refine tq 3 (.string w0) rfl (fun W hW => ?_) hS ?_
 ·obtain ⟨z0, z1⟩ := hW; go_simp
 simp only [Act.put, tkS]
 refine tq 4 (.slice (some ⟨b, off, none⟩) N cap) rfl (fun W hW => ?_) hS ?_
 ·obtain ⟨z0, z1⟩ := hW; go_simp
 simp only [Act.put, tkS]
 refine tk 5 (.slice (some ⟨b, o, none⟩) (N - 1) (cap - 1)) rfl (.inl ⟨by rfl, fun W hW => (by (obtain ⟨z0, z1⟩ := hW; rcases hco with ⟨h1, h2⟩ | ⟨h1, h2⟩ <;> (subst h2; go_simp)))⟩) hS ?_
 simp only [Act.put, tkS]
 clear hco
 refine wpAnyH_ready (rs := [6]) (by kernel_rfl) (by simp) (AllReadyH.cons rfl (fun K hK => ?_) AllReadyH.nil)
 go_simp
 refine (HDo.u w.drew ⟨HW.u.cell, HW.u.lt⟩ (HD.u.below (Below.refl _ w).drew) (HE.u.below (Below.refl _ w).drew)).mono ?_
 rintro e w6 ⟨ha, hd, hc⟩
 have hc := (G.Chg.refl (fun b => ¬ R b) w).drew.trans hc
 have hS6 : w6.cell? ⟨b, off, none⟩ = some (.string w0) ∧ True := ⟨(chg_cell hc (World.block_lt_of_cell? _ _ c0) (fun hn => hn HRb.u) off).trans c0, trivial⟩
 have HE6 := J (HE.u.chg hc fun b hb hn => hn (HG0.u b hb))
 have HD6 := J hd; have HC6 := J hc
 clear hd hc
 have hB7 := (Below.refl w6.heap.size w6).alloc (Nat.le_refl _) (.cells #[.pointer none] 50)
 have HA7 := J (G.At.made w6 50 #[.pointer none])
 have HE7 := J (HE6.u.below hB7)
 have HB7 := J hB7
 clear hB7
 cases a with
 | text s =>
  have e1 : e = .returned (.tuple #[.string s, .nilIface]) := ha
  subst e1
  have HF := J (show LnPost R w g (.text s, d') (.returned (.string s)) (w6.alloc (.cells #[.pointer none] 50)) from LnPost.of HD6.u HC6.u HB7.u rfl)
  clear ha
  go_wp2_with fail
  refine hK.out _ _ hS6 (fun _ => ?_)
  clear hK K
  refine tq 7 (.tuple #[.string s, .nilIface]) rfl (fun W hW => ?_) hS6 ?_
  ·obtain ⟨z0, z1⟩ := hW; go_simp
  simp only [Act.put, tkS]
  refine tq 8 (.string s) rfl (fun W hW => ?_) hS6 ?_
  ·obtain ⟨z0, z1⟩ := hW; go_simp
  simp only [Act.put, tkS]
  refine tq 9 .nilIface rfl (fun W hW => ?_) hS6 ?_
  ·obtain ⟨z0, z1⟩ := hW; go_simp
  simp only [Act.put, tkS]
  refine tq 10 (.string s) rfl (fun W hW => ?_) hS6 ?_
  ·obtain ⟨z0, z1⟩ := hW; go_simp
  simp only [Act.put, tkS]
  refine tq 11 .nilIface rfl (fun W hW => ?_) hS6 ?_
  ·obtain ⟨z0, z1⟩ := hW; go_simp
  simp only [Act.put, tkS]
  clear hS hS6 c0 HDo
  refine wpAnyH_done (by kernel_rfl) ?_ _
  go_wp2_with fail
  refine (errAs_nil _ _).mono ?_
  rintro e w8 ⟨rfl, rfl⟩
  go_wp2_with fail
  go_ret
  exact HF.u
 | fault x p =>
  obtain ⟨s, y, rfl, gb, rfl, hb⟩ := ha
  have HX := J (hb.below HB7.u hb.inside)
  have HXi := J hb.inside
  obtain ⟨⟨hx0, hx1⟩, hp0, hp1⟩ := HFi.u
  have HIx := J (show IntW x from ⟨by omega, by omega⟩)
  have HIp := J (show IntW p from ⟨by omega, by omega⟩)
  have s1 := itoS x (by omega)
  have s2 := itoS p (by omega)
  have hone : (⟨#[32]⟩ : ByteArray).size = 1 := rfl
  have hsix : (⟨#[101, 114, 114, 111, 114, 32]⟩ : ByteArray).size = 6 := rfl
  have z1 : (⟨#[101, 114, 114, 111, 114, 32]⟩ : ByteArray).size + (G.itoB x).size ≤ 9223372036854775807 := by omega
  have z2 : (⟨#[32]⟩ : ByteArray).size + (G.itoB p).size ≤ 9223372036854775807 := by omega
  have z3 : ((⟨#[101, 114, 114, 111, 114, 32]⟩ : ByteArray) ++ G.itoB x).size + ((⟨#[32]⟩ : ByteArray) ++ G.itoB p).size ≤ 9223372036854775807 := by simp only [ByteArray.size_append]; omega
  have HAs := J (errAs_at ⟨gb, 0, none⟩ w6.heap.size (.pointer none) _ HE7.u HA7.u)
  clear hb hx0 hx1 hp0 hp1 s1 s2 hone hsix HFi
  go_wp2_with fail
  refine hK.out _ _ hS6 (fun _ => ?_)
  clear hK K
  refine tq 7 (.tuple #[.string s, .iface 50 (.pointer (some ⟨gb, 0, none⟩))]) rfl (fun W hW => ?_) hS6 ?_
  ·obtain ⟨z0, z1⟩ := hW; go_simp
  simp only [Act.put, tkS]
  refine tq 8 (.string s) rfl (fun W hW => ?_) hS6 ?_
  ·obtain ⟨z0, z1⟩ := hW; go_simp
  simp only [Act.put, tkS]
  refine tq 9 (.iface 50 (.pointer (some ⟨gb, 0, none⟩))) rfl (fun W hW => ?_) hS6 ?_
  ·obtain ⟨z0, z1⟩ := hW; go_simp
  simp only [Act.put, tkS]
  refine tq 10 (.string s) rfl (fun W hW => ?_) hS6 ?_
  ·obtain ⟨z0, z1⟩ := hW; go_simp
  simp only [Act.put, tkS]
  refine tq 11 (.iface 50 (.pointer (some ⟨gb, 0, none⟩))) rfl (fun W hW => ?_) hS6 ?_
  ·obtain ⟨z0, z1⟩ := hW; go_simp
  simp only [Act.put, tkS]
  clear hS hS6 c0 HDo
  refine wpAnyH_done (by kernel_rfl) ?_ _
  go_wp2_with fail
  refine HAs.u.mono ?_
  rintro e w8 ⟨rfl, ha8, hc8⟩
  have HB8 := J (below_chg HB7.u hc8 (Nat.le_refl _))
  have hX8 := HX.u.chg hc8 (by have := HXi.u; omega)
  have c0 := ha8.here (i := 0) rfl
  have x0 := hX8.here (i := 0) rfl
  have x1 := hX8.here (i := 1) rfl
  have HP8 := J (HE6.u.below HB8.u).pow
  generalize w6.heap.size = gf at c0 ⊢
  clear ha8 hc8 hX8 HAs HA7 HE7 HB7 HX HXi
  go_wp2_with fail
  refine (itoaAny x HIx.u _ HP8.u).mono ?_
  rintro e w9 ⟨rfl, hb9⟩
  have c0 := cell_b c0 hb9; have x1 := cell_b x1 hb9
  have HB9 := J (HB8.u.trans (hb9.mono HB8.u.size))
  have HP9 := J (HP8.u.below hb9)
  clear hb9 x0 HB8 HP8
  by_cases hp : 0 ≤ p
  ·have HO := J (out_pos (x := x) hp)
   go_wp2_with fail
   refine (itoaAny p HIp.u _ HP9.u).mono ?_
   rintro e w10 ⟨rfl, hb10⟩
   have HF := J (show LnPost R w g (.fault x p, d') (.returned (.string ((⟨#[101, 114, 114, 111, 114, 32]⟩ ++ G.itoB x) ++ (⟨#[32]⟩ ++ G.itoB p)))) w10 from LnPost.of HD6.u HC6.u (HB9.u.trans (hb10.mono HB9.u.size)) (by rw [HO.u]))
   clear hb10
   go_wp2_with fail
   go_ret
   exact HF.u
  have HF := J (show LnPost R w g (.fault x p, d') (.returned (.string (⟨#[101, 114, 114, 111, 114, 32]⟩ ++ G.itoB x))) w9 from LnPost.of HD6.u HC6.u HB9.u (by rw [out_neg hp]))
  go_wp2_with fail
  go_ret
  exact HF.u
open Go.RowKit
def AftPost (t : ByteArray) (w : World) (e : Ending) (w' : World) : Prop := ∃ b ls, e = .returned (.slice (some ⟨b, 0, none⟩) (List.length ls) ls.length) ∧ Aft t ls ∧ WdsAt w' b 0 ls ∧ Below w.heap.size w w'
theorem deskAfter (t : ByteArray) (ht : t.size ≤ 3000000) (m : Int) (w : World) (hm : w.cell? ⟨0, 0, none⟩ = some (.int .i64 m)) :
  Calls Tryz.prog 10 #[.string t, .string ⟨#[10]⟩] w (AftPost t w) := by
 obtain ⟨ls, hls⟩ : ∃ ls, Lib.splitB ⟨#[10]⟩ 1 (Lib.countB t ⟨#[10]⟩) t = ls := ⟨_, rfl⟩
 have hlen : ls.length = Lib.countB t ⟨#[10]⟩ + 1 := by rw [← hls]; exact Lib.splitB_all ⟨#[10]⟩ (Nat.le_refl 1) 1 _ t rfl
 have hfew : ls.length ≤ t.size + 1 := by
  have h1 : Aft t ls := by rw [← hls]; exact G.after_is t
  exact h1.few
 have HC := J (show Calls Tryz.prog 21 #[.string t, .string ⟨#[10]⟩, .int .i64 1, .int .i64 (-1)] w (AftPost t w) from by
  refine (Tryz.strings_genSplit t ⟨#[10]⟩ 1 (-1) ls.length m w (by omega) hm (Nat.le_refl 1) (Nat.le_refl 1) (by decide) (by decide) (by rw [if_pos (by decide)]; omega)).mono ?_
  rintro e w' ⟨rfl, rfl⟩
  rw [hlen, Nat.add_sub_cancel, hls]
  refine ⟨w.heap.size, ls, by rw [hlen], by rw [← hls]; exact G.after_is t, ⟨fun i x hx => ?_, by simp⟩, (Below.refl _ _).alloc (Nat.le_refl _) _⟩
  rw [Nat.zero_add]
  refine (G.At.made w 9 _).here ?_
  unfold Lib.cellsOf
  rw [← hlen, Nat.sub_self, List.replicate_zero, List.append_nil, List.getElem?_toArray, List.getElem?_map, hx]; rfl)
 clear hm hls hlen hfew ht
 go_enter Tryz.func10, Tryz.ntmps10
 go_wp2_with fail
 refine HC.u.mono ?_
 rintro e w2 ⟨b, ls, rfl, h1, h2, h3⟩
 have HF := J (show AftPost t w (.returned (.slice (some ⟨b, 0, none⟩) (List.length ls) ls.length)) w2 from ⟨b, ls, rfl, h1, h2, h3⟩)
 clear h1 h2 h3
 go_wp2_with fail
 go_ret
 exact HF.u
def RunR (N : Nat) (v : Value) (b : Nat) : Prop := (b < N + 2 ∧ b ≠ N) ∨ v.ownBlock = some b
structure RunAt (t : ByteArray) (N : Nat) (w4 : World) (k : Nat) (wr : World) (x : Dk × ByteArray) (v : Value) : Prop where
 e : x = ((linesB t).take k).foldl stepD dkNew
 dk : DkN (RunR N v) wr N x.1
 bd : BdS N wr (N + 1) v x.2
 chg : G.Chg (fun b => b = N ∨ b = N + 1) w4 wr
 ok : x.1.ok (k * 1000)
 few : x.2.size ≤ k * 2000000001
 hN : w4.heap.size = N + 2
def RunR2 (N : Nat) (v : Value) (wr wa : World) (b : Nat) : Prop := RunR N v b ∨ (wr.heap.size ≤ b ∧ b < wa.heap.size)
theorem RunAt.size {t : ByteArray} {N k : Nat} {w4 wr : World} {x : Dk × ByteArray} {v : Value} (h : RunAt t N w4 k wr x v) : N + 2 ≤ wr.heap.size := by have := h.chg.size; rw [h.hN] at this; exact this
theorem RunAt.ready {t : ByteArray} {N k : Nat} {w4 wr wa : World} {x : Dk × ByteArray} {v : Value} (h : RunAt t N w4 k wr x v) (hb : Below wr.heap.size wr wa) : DkN (RunR2 N v wr wa) wa N x.1 :=
 h.dk.aside (C := fun _ => False) (G.Chg.of_below hb (Nat.le_refl _)) (fun _ h => h.elim) fun b hR => by
  rcases hR with hR | hR
  ·exact ⟨.inl hR, Nat.lt_of_lt_of_le (h.dk.lim b hR).1 hb.size⟩
  exact ⟨.inr hR.1, hR.2⟩
theorem RunAt.env {t : ByteArray} {N k : Nat} {w4 wr : World} {x : Dk × ByteArray} {v : Value} (h : RunAt t N w4 k wr x v) (hE : Env w4) (hG : 7 ≤ N) : Env wr := hE.chg h.chg fun b hb hc => by omega
theorem RunAt.start {t : ByteArray} {N : Nat} {w4 : World} (hd : G.At w4 N 32 #[.string ⟨#[]⟩, .pointer none]) (hb : BdS N w4 (N + 1) (.slice none 0 0) ⟨#[]⟩) (hN : w4.heap.size = N + 2) : RunAt t N w4 0 w4 dkNew (.slice none 0 0) where
 e := rfl
 dk := ⟨⟨_, hd, .inl ⟨rfl, rfl⟩⟩, fun b hR => by
  rcases hR with ⟨h1, h2⟩ | h
  ·exact ⟨by omega, h2⟩
  cases h⟩
 bd := hb
 chg := G.Chg.refl _ _
 ok := ⟨Nat.zero_le 2048, fun m h => by cases h⟩
 few := by rw [Nat.zero_mul]; exact Nat.le_refl 0
 hN := hN
theorem fold_step {t : ByteArray} {k : Nat} {l : List UInt8} (hl : (linesB t)[k]? = some l) : ((linesB t).take (k + 1)).foldl stepD dkNew = stepD (((linesB t).take k).foldl stepD dkNew) l := by
 rw [G.take_of_get hl, List.foldl_append]; rfl
theorem RunAt.skip {t : ByteArray} {N k : Nat} {w4 wr wa : World} {x : Dk × ByteArray} {v : Value} {l : List UInt8} (h : RunAt t N w4 k wr x v) (hl : (linesB t)[k]? = some l) (hs : said (wordsL l) = false) (hb : Below wr.heap.size wr wa) : RunAt t N w4 (k + 1) wa x v where
 e := by rw [fold_step hl, ← h.e]; unfold stepD; rw [if_neg (by rw [hs]; simp)]
 dk := h.dk.below hb
 bd := h.bd.chg (C := fun _ => False) (G.Chg.of_below hb (Nat.le_refl _)) id fun _ _ => id
 chg := h.chg.step_below hb h.chg.size
 ok := h.ok.up (by omega)
 few := Nat.le_trans h.few (Nat.mul_le_mul_right _ (Nat.le_succ k))
 hN := h.hN
theorem RunAt.say {t : ByteArray} {N k : Nat} {w4 wr wa wb wc : World} {x : Dk × ByteArray} {v : Value} {l : List UInt8} {e1 e2 : Ending} {A : Ans} {d2 : Dk} (h : RunAt t N w4 k wr x v) (hl : (linesB t)[k]? = some l) (hs : said (wordsL l) = true) (hb : Below wr.heap.size wr wa)
  (hA : doA x.1 (G.pieceAt (wordsL l) 0) ((wordsL l).drop 1) = (A, d2)) (hp : LnPost (RunR2 N v wr wa) wa N (A, d2) e1 wb) (hw : BdPost N wb (N + 1) v x.2 (A.say ++ ⟨#[10]⟩) e2 wc) (hk : k < 200) : ∃ v', RunAt t N w4 (k + 1) wc (d2, x.2 ++ (A.say ++ ⟨#[10]⟩)) v' := by
 obtain ⟨_, v', hbd, hc, hv⟩ := hw
 have hz := h.size; have z1 := hb.size; have z2 := hp.chg.size; have z3 := hc.size
 have hown : ∀ b, v.ownBlock = some b → N + 2 ≤ b ∧ b < wr.heap.size := fun b hb => by
  have h1 := (h.bd.row.block b hb)
  have h2 := (h.dk.lim b (.inr hb)).2
  have h3 := h.bd.apart b hb
  have h4 : N ≤ b := h1.1
  exact ⟨by omega, h1.2⟩
 refine ⟨v', ?_, ?_, hbd, ?_, ?_, ?_, h.hN⟩
 ·rw [fold_step hl, ← h.e]; unfold stepD; rw [if_pos hs, hA]
 ·refine hp.dk.aside hc (fun b hb => ?_) fun b hR => ?_
  ·rcases hb with rfl | hb
   ·exact .inl (.inl ⟨by omega, by omega⟩)
   exact .inl (.inr hb)
  rcases hR with hR | hR
  ·exact ⟨.inl (.inl (.inl hR)), by omega⟩
  refine ⟨?_, (hbd.row.block b hR).2⟩
  rcases hv b hR with h1 | h1
  ·exact .inl (.inl (.inr h1))
  exact .inr h1
 ·have c1 := h.chg.step_below hb h.chg.size
  have c2 := c1.step hp.chg fun b hn => by
   rw [h.hN]
   by_cases h1 : b < N + 2
   ·by_cases h2 : b = N
    ·exact .inl (.inl h2)
    exact absurd (.inl (.inl ⟨h1, h2⟩)) hn
   exact .inr (by omega)
  exact c2.step hc fun b hb => by
   rw [h.hN]
   rcases hb with rfl | hb
   ·exact .inl (.inr rfl)
   exact .inr (hown b hb).1
 ·have h1 := doA_ok h.ok (G.pieceAt (wordsL l) 0) ((wordsL l).drop 1)
  rw [hA] at h1
  have e : k * 1000 + 1000 = (k + 1) * 1000 := by omega
  rw [← e]; exact h1
 have h1 := doA_fine h.ok (by omega) (G.pieceAt (wordsL l) 0) ((wordsL l).drop 1)
 rw [hA] at h1
 have h2 := h1.le
 have e4 : (⟨#[10]⟩ : ByteArray).size = 1 := rfl
 have := h.few
 show (x.2 ++ (A.say ++ ⟨#[10]⟩)).size ≤ _
 simp only [ByteArray.size_append]
 show x.2.size + (A.say.size + (⟨#[10]⟩ : ByteArray).size) ≤ _
 have h3 : A.say.size ≤ 2000000000 := h2
 omega
theorem RunAt.text {t : ByteArray} {N k : Nat} {w4 wr wa wb : World} {x : Dk × ByteArray} {v : Value} {y : Ans × Dk} {e1 : Ending} (h : RunAt t N w4 k wr x v) (hb : Below wr.heap.size wr wa) (hp : LnPost (RunR2 N v wr wa) wa N y e1 wb) : BdS N wb (N + 1) v x.2 ∧ N ≤ wb.heap.size := by
 have hz := h.size; have z1 := hb.size; have z2 := hp.chg.size
 refine ⟨(h.bd.chg (C := fun _ => False) (G.Chg.of_below hb (Nat.le_refl _)) id fun _ _ => id).chg hp.chg (fun hn => hn (.inl (.inl ⟨by omega, by omega⟩))) fun g hg hn => hn (.inl (.inr hg)), by omega⟩
def DRunPost (t : ByteArray) (w : World) (e : Ending) (w' : World) : Prop := e = .returned (.string (runB t)) ∧ Below w.heap.size w w'
theorem run_large {t : ByteArray} {w w' : World} (h : 65536 < t.size ∨ 200 < (linesB t).length) (hb : Below w.heap.size w w') : DRunPost t w (.returned (.string ⟨#[101, 114, 114, 111, 114, 32, 50, 10]⟩)) w' := ⟨by unfold runB; rw [if_pos h]; rfl, hb⟩
theorem RunAt.done {t : ByteArray} {N : Nat} {w w2 w4 wr w' : World} {x : Dk × ByteArray} {v : Value} (h : RunAt t N w4 (linesB t).length wr x v) (hl : ¬ (65536 < t.size ∨ 200 < (linesB t).length)) (h2 : Below w.heap.size w w2) (hN : w2.heap.size = N) (h4 : Below w2.heap.size w2 w4) (hb : Below N wr w') : DRunPost t w (.returned (.string x.2)) w' := by
 refine ⟨by unfold runB; rw [if_neg hl, h.e, List.take_length], ?_⟩
 have hz := h2.size
 have b1 : Below w.heap.size w w4 := h2.trans (h4.mono h2.size)
 have b2 : Below w.heap.size w4 wr := h.chg.below (by have := h.hN; omega) fun k hk => by omega
 exact (b1.trans b2).trans (hb.mono (by omega))
end Go.Proofs.YtoidcbpcnikejaaGreatDoor
