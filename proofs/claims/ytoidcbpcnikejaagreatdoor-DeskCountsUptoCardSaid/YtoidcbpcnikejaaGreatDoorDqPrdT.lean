/- The contract of plan.timed. -/
import Derived.Deep.MidRow
import Derived.Test.YtoidcbpcnikejaaGreatDoorDqCrnP
set_option linter.unusedVariables false
set_option linter.unusedSimpArgs false
set_option maxRecDepth 100000
set_option maxHeartbeats 12800000
namespace Go.Proofs.YtoidcbpcnikejaaGreatDoor
open Go.RowKit
def trgA (t : Trg) : Array Value := #[.int .i64 t.kind, .int .i64 t.target, .int .i64 t.act, .int .u64 (t.a.mi : Int), .int .u64 (t.a.h : Int), .int .u64 (t.a.d : Int), .int .u64 (t.a.mo : Int), .int .u64 (t.a.wk : Int), .bool t.a.ad, .bool t.a.aw, .int .u64 (t.b.mi : Int), .int .u64 (t.b.h : Int), .int .u64 (t.b.d : Int), .int .u64 (t.b.mo : Int), .int .u64 (t.b.wk : Int), .bool t.b.ad, .bool t.b.aw]
theorem trgA_enc (t : Trg) : trgA t = (Trg.enc t).toArray := rfl
def zeroT : Trg := ⟨0, 0, 0, crZ, crZ⟩
def crV (s : ByteArray) : Cr := if G.cronOk s = true then crOf s else crZ
theorem cronV_is (s : ByteArray) : cronV s = (crV s).cells := by
 unfold cronV crV
 split <;> rfl
theorem code_is (s : ByteArray) : (G.cronCode s == 0) = G.cronOk s := by
 unfold G.cronCode
 split
 ·have : G.cronOk s = false := by unfold G.cronOk; rw [decide_eq_false (by omega)]; rfl
  rw [this]; rfl
 cases G.cronOk s <;> rfl
theorem idx_bd (x : ByteArray) : ∀ (zs : List ByteArray) (i : Nat), Lib.idxFromS zs x i = -1 ∨ ((i : Int) ≤ Lib.idxFromS zs x i ∧ Lib.idxFromS zs x i < (i : Int) + zs.length)
 | [], i => .inl rfl
 | z :: zs, i => by
  unfold Lib.idxFromS
  split
  ·right; simp only [List.length_cons]; omega
  rcases idx_bd x zs (i + 1) with h | h
  ·exact .inl h
  right; simp only [List.length_cons]; omega
theorem slash_bd (ws : List ByteArray) : -1 ≤ slashAt ws ∧ slashAt ws < ws.length := by
 unfold slashAt Lib.idxOfS
 rcases idx_bd wdSlash ws 0 with h | h
 ·rw [h]; omega
 omega
def TimedPost (w : World) (gt : Nat) (ws : List ByteArray) (e : Ending) (w' : World) : Prop :=
 e = .returned (.bool (timedOk ws)) ∧ (∃ t, G.At w' gt 171 (trgA t) ∧ (timedOk ws = true → timedN ws = some t)) ∧ G.Chg (fun b => b = gt) w w'
theorem joinWords (bw : Nat) (ws xs : List ByteArray) (off n c : Nat) (W : World) (h : WdsAt W bw off xs) (hn : xs.length = n) (hc : n ≤ c) (hx : ∀ x ∈ xs, x.size ≤ 1000000) (hl : n ≤ 1000001) :
  Calls Tryz.prog 51 #[.slice (some ⟨bw, off, none⟩) n c, .string ⟨#[32]⟩] W fun e w' => e = .returned (.string (G.joinB 32 xs)) ∧ Below W.heap.size W w' := by
 subst hn
 refine (Tryz.strings_Join bw off c xs ⟨#[32]⟩ W (fun j x hj => h.cell j x hj) h.lt (by omega) hc ?_).mono fun _ _ q => q
 have h1 := G.joinB_size 32 (l := xs) (k := 1000000) hx
 have h2 : (G.joinB 32 xs).size = (Lib.join (xs.map (·.data.toList)) [32]).length := by rw [G.ba_size]; show (List.toArray _).toList.length = _; rw [List.toList_toArray]
 show (Lib.join (xs.map (·.data.toList)) [32]).length ≤ _
 have h3 : (1000000 + 1) * xs.length ≤ (1000000 + 1) * 1000001 := Nat.mul_le_mul_left _ hl
 omega
theorem parseCr (s : ByteArray) (c : Cr) (hc : crV s = c) (m : Int) (w : World) (hm : w.cell? ⟨0, 0, none⟩ = some (.int .i64 m)) :
  Calls Tryz.prog 52 #[.string s] w fun e w' => e = .returned (.tuple #[.agg #[.int .u64 (c.mi : Int), .int .u64 (c.h : Int), .int .u64 (c.d : Int), .int .u64 (c.mo : Int), .int .u64 (c.wk : Int), .bool c.ad, .bool c.aw], .int .i64 (G.cronCode s)]) ∧ Below w.heap.size w w' := by
 refine (cronParse s m w hm).mono ?_
 rintro e w' ⟨he, hb⟩
 rw [cronV_is, hc] at he
 exact ⟨he, hb⟩
structure TimMid (w wx : World) (gt : Nat) (tv : Int) : Prop where
 at_ : G.At wx gt 171 (trgA ⟨0, tv, 0, crZ, crZ⟩)
 chg : G.Chg (fun b => b = gt) w wx
theorem TimMid.below {w wx wy : World} {gt : Nat} {tv : Int} (h : TimMid w wx gt tv) (hb : Below wx.heap.size wx wy) : TimMid w wy gt tv := ⟨h.at_.below hb h.at_.inside, h.chg.step_below hb h.chg.size⟩
theorem planTimed (ws : List ByteArray) (bw gt : Nat) (m : Int) (w : World) (hw : WdsAt w bw 0 ws) (hg : G.At w gt 171 (trgA zeroT)) (hm : w.cell? ⟨0, 0, none⟩ = some (.int .i64 m)) (n1 : bw ≠ gt) (n2 : 0 ≠ gt) (hs : ∀ x ∈ ws, x.size ≤ 1000000) (h0 : 1 ≤ ws.length) (hl : ws.length ≤ 1000001) :
  Calls Tryz.prog 118 #[.slice (some ⟨bw, 0, none⟩) ws.length ws.length, .pointer (some ⟨gt, 0, none⟩)] w (TimedPost w gt ws) := by
 have HIx := J (show Calls Tryz.prog 154 #[.slice (some ⟨bw, 0, none⟩) ws.length ws.length, .string ⟨#[47]⟩] w fun e w' => e = .returned (.int .i64 (slashAt ws)) ∧ w = w' from by
  refine (Tryz.slices_Index_string bw 0 ws.length ws.length ws ⟨#[47]⟩ w (Nat.le_refl _) (by omega) (fun j hj => hw.cell j _ (by rw [List.getD_eq_getElem?_getD, List.getElem?_eq_getElem hj]; rfl))).mono ?_
  rintro e w' ⟨he, hw'⟩
  rw [List.take_length] at he
  exact ⟨he, hw'.symm⟩)
 have hb := slash_bd ws
 have HWc := J (fun (W : World) (hc : G.Chg (fun b => b = gt) w W) => hw.chg hc n1)
 have HMc := J (fun (W : World) (hc : G.Chg (fun b => b = gt) w W) => (chg_cell hc (World.block_lt_of_cell? _ _ hm) n2 0).trans hm)
 have hgl := hg.inside
 have HS := J hs
 obtain ⟨q, hq⟩ : ∃ q, (decide (2 ≤ slashAt ws) && wOk (G.pieceAt ws 1)) = q := ⟨_, rfl⟩
 have HOk := J (show timedOk ws = (q && (G.cronOk (spanA ws) && G.cronOk (spanB ws))) by unfold timedOk; rw [← hq, Bool.and_assoc])
 have HQ := J hq
 have H0 := J (show TimMid w w gt 0 from ⟨hg, G.Chg.refl _ _⟩)
 have HRd := J (fun (W : World) (bt : Nat) (x : ByteArray) (hx : ws[1]? = some x) (hb : Below w.heap.size w W) (hbt : w.heap.size ≤ bt) (hp : G.At W bt 208 (ptrs gt [1])) => (by
  have hd : (ws.drop 1).take 1 = [x] := by rw [List.take_one, List.head?_drop, hx]; rfl
  have h1 := (((hw.below hb).drop 1).take 1)
  rw [hd, Nat.zero_add] at h1
  exact planRead [x] [1] bw 1 (ws.length - 1) bt 1 gt 171 (trgA zeroT) W h1 hp (hg.below hb hgl) (by intro o ho; show o < 17; revert o; decide) n1 (by omega) (fun z hz => by rw [List.mem_singleton.1 hz]; exact hs x (List.mem_of_getElem? hx)) (by decide) (by simp) : Calls Tryz.prog 116 #[.slice (some ⟨bw, 1, none⟩) 1 (ws.length - 1), .slice (some ⟨bt, 0, none⟩) 1 1] W (NumsPost W gt 171 (trgA zeroT) [1] [x])))
 obtain ⟨k, hk⟩ : ∃ k, slashAt ws = k := ⟨_, rfl⟩
 have HK := J hk
 rw [hk] at HIx hb
 obtain ⟨n, hn⟩ : ∃ n, ws.length = n := ⟨_, rfl⟩
 have HN := J hn
 rw [hn] at HIx HRd hb h0 hl ⊢
 have i1 : (n : Int) ≤ 1000001 := by omega
 have i2 : (1 : Int) ≤ (n : Int) := by omega
 obtain ⟨k0, k1⟩ := hb
 clear hw hg hm hs hq hk hn
 go_enter Tryz.func118, Tryz.ntmps118
 go_wp2_with fail
 refine HIx.u.mono ?_
 rintro e w1 ⟨rfl, rfl⟩
 go_upto_region 2 with fail
 go_cut [26] (fun y wx => y = .bool (!q) ∧ ∃ tv, Hid (TimMid w wx gt tv) ∧ (q = true → tv = wV (G.pieceAt ws 1)))
 case first =>
  by_cases h2 : 2 ≤ k
  ·have hn2 : (2 : Int) ≤ (n : Int) := by omega
   have hn3 : 2 < n := by omega
   have hn4 : (2 : Int) < (n : Int) := by omega
   obtain ⟨x, hx⟩ := G.get_some ws (show 1 < ws.length by rw [HN.u]; omega)
   have hpx := G.pieceAt_get hx
   have HR := J (HRd.u (w.drew.alloc (.cells #[.pointer (some ⟨gt, 1, none⟩)] 208)) w.drew.heap.size x hx ((Below.refl _ _).drew.alloc (Nat.le_refl _) _) (Nat.le_refl _) (G.At.made _ _ _))
   have HV := J (show q = wOk x by rw [← HQ.u, HK.u, decide_eq_true h2, hpx]; rfl)
   have HX := J hpx
   have HC0 := J (show G.Chg (fun b => b = gt) w (w.drew.alloc (.cells #[.pointer (some ⟨gt, 1, none⟩)] 208)) from G.Chg.of_below ((Below.refl _ _).drew.alloc (Nat.le_refl _) _) (Nat.le_refl _))
   have h6 : decide ((n : Int) < 2) = false := decide_eq_false (by omega)
   have h7 : decide (k < 2) = false := decide_eq_false (by omega)
   clear hx hpx HRd h0 hl
   refine wp_region_held_drew (S := fun _ => True) (by kernel_rfl) trivial (fun hS => ?_)
   clear hS
   change wpAnyH _ _ _ _ _ 17 #[false, false, false, false, false, false, false, false, false, false, false, false, false, false, false, false, false] _ (World.drew _)
   refine tq 0 (.slice (some ⟨bw, 0, none⟩) n n) rfl (fun W hW => ?_) trivial ?_
   ·clear hW; go_simp
   simp only [Act.put, tkS]
   refine tq 1 (.int .i64 (n : Int)) rfl (fun W hW => ?_) trivial ?_
   ·clear hW; go_simp
   simp only [Act.put, tkS]
   refine tq 2 (.bool false) rfl (fun W hW => ?_) trivial ?_
   ·clear hW; first | (go_simp; done) | (go_simp; simp only [h6])
   simp only [Act.put, tkS]
   refine tq 3 (.bool false) rfl (fun W hW => ?_) trivial ?_
   ·clear hW; go_simp
   simp only [Act.put, tkS]
   refine tq 4 (.int .i64 k) rfl (fun W hW => ?_) trivial ?_
   ·clear hW; go_simp
   simp only [Act.put, tkS]
   refine tq 5 (.bool false) rfl (fun W hW => ?_) trivial ?_
   ·clear hW; first | (go_simp; done) | (go_simp; simp only [h7])
   simp only [Act.put, tkS]
   refine tq 6 (.bool false) rfl (fun W hW => ?_) trivial ?_
   ·clear hW; go_simp
   simp only [Act.put, tkS]
   refine tq 7 (.bool false) rfl (fun W hW => ?_) trivial ?_
   ·clear hW; go_simp
   simp only [Act.put, tkS]
   refine tq 8 (.slice (some ⟨bw, 0, none⟩) n n) rfl (fun W hW => ?_) trivial ?_
   ·clear hW; go_simp
   simp only [Act.put, tkS]
   refine tq 9 (.slice (some ⟨bw, 1, none⟩) 1 (n - 1)) rfl (fun W hW => ?_) trivial ?_
   ·clear hW; go_simp; omega
   simp only [Act.put, tkS]
   refine tq 10 (.pointer (some ⟨gt, 0, none⟩)) rfl (fun W hW => ?_) trivial ?_
   ·clear hW; go_simp
   simp only [Act.put, tkS]
   refine tq 11 (.pointer (some ⟨gt, 0, none⟩)) rfl (fun W hW => ?_) trivial ?_
   ·clear hW; go_simp
   simp only [Act.put, tkS]
   refine tq 12 (.pointer (some ⟨gt, 1, none⟩)) rfl (fun W hW => ?_) trivial ?_
   ·clear hW; go_simp
   simp only [Act.put, tkS]
   refine wpAnyH_ready (rs := [13]) (by kernel_rfl) (by simp) (AllReadyH.cons rfl (fun K hK => ?_) AllReadyH.nil)
   go_simp
   refine hK.out _ _ trivial (fun hS => ?_)
   clear hS hK K
   refine wpAnyH_ready (rs := [14]) (by kernel_rfl) (by simp) (AllReadyH.cons rfl (fun K hK => ?_) AllReadyH.nil)
   go_simp
   refine HR.u.mono ?_
   rintro e w2 ⟨rfl, ⟨j, hj, hat, hjj⟩, hc2⟩
   go_wp2_with fail
   refine hK.out _ _ trivial (fun hS => ?_)
   clear hS hK K
   have HM := J (show ∃ tv, Hid (TimMid w w2 gt tv) ∧ (q = true → tv = wV (G.pieceAt ws 1)) from by
    rw [HX.u]
    rcases (show j = 0 ∨ j = 1 by have : j ≤ 1 := hj; omega) with rfl | rfl
    ·refine ⟨0, J ⟨hat, HC0.u.trans hc2⟩, fun hq => ?_⟩
     have h9 := hjj (by unfold wordsOk; rw [HV.u] at hq; simp [hq])
     simp at h9
    exact ⟨wV x, J ⟨hat, HC0.u.trans hc2⟩, fun _ => rfl⟩)
   have HW2 := J (show wordsOk [x] ([1] : List Nat).length = q by rw [HV.u]; unfold wordsOk; simp)
   rw [show wordsOk [x] 1 = q from HW2.u]
   clear hj hat hjj hc2 HR
   cases q
   ·refine tq 15 (.bool true) rfl (fun W hW => ?_) trivial ?_
    ·clear hW; go_simp
    simp only [Act.put, tkS]
    refine tq 16 (.bool true) rfl (fun W hW => ?_) trivial ?_
    ·clear hW; go_simp
    simp only [Act.put, tkS]
    refine wpAnyH_done (by kernel_rfl) ?_ _
    go_wp2_with fail
    go_meet
    exact ⟨rfl, HM.u⟩
   refine tq 15 (.bool false) rfl (fun W hW => ?_) trivial ?_
   ·clear hW; go_simp
   simp only [Act.put, tkS]
   refine tq 16 (.bool false) rfl (fun W hW => ?_) trivial ?_
   ·clear hW; go_simp
   simp only [Act.put, tkS]
   refine wpAnyH_done (by kernel_rfl) ?_ _
   go_wp2_with fail
   go_meet
   exact ⟨rfl, HM.u⟩
  have HV := J (show q = false by rw [← HQ.u, HK.u, decide_eq_false h2]; rfl)
  have h3 : k < 2 := by omega
  have HD := J (fun j => H0.u.below (below_drewN (Below.refl _ _) j))
  clear h2 HRd
  by_cases h4 : n < 2
  ·have h5 : (n : Int) < 2 := by omega
   go_quiet (fail)
   go_wp2_with fail
   go_meet
   exact ⟨by rw [HV.u] <;> rfl, 0, J (HD.u _), fun h => by rw [HV.u] at h; cases h⟩
  have h5 : (2 : Int) ≤ (n : Int) := by omega
  have h6 : decide ((n : Int) < 2) = false := decide_eq_false (by omega)
  clear h4
  go_quiet (fail)
  go_wp2_with fail
  go_meet
  exact ⟨by rw [HV.u] <;> rfl, 0, J (HD.u _), fun h => by rw [HV.u] at h; cases h⟩
 obtain ⟨rfl, tv, HM, htv⟩ := hcut
 have HTv := J htv
 clear htv H0 HRd
 rename World => W2
 cases q
 ·have HF := J (show TimedPost w gt ws (.returned (.bool false)) W2 from ⟨by rw [HOk.u]; rfl, ⟨_, HM.u.at_, fun h => by rw [HOk.u] at h; cases h⟩, HM.u.chg⟩)
  go_wp2_with fail
  go_ret
  exact HF.u
 have hqt := HQ.u
 rw [HK.u, Bool.and_eq_true, decide_eq_true_eq] at hqt
 have h2 := hqt.1
 obtain ⟨kn, rfl⟩ := Int.eq_ofNat_of_zero_le (show 0 ≤ k by omega)
 have htv := HTv.u rfl
 obtain ⟨A, hA⟩ : ∃ A, spanA ws = A := ⟨_, rfl⟩
 obtain ⟨B, hB⟩ : ∃ B, spanB ws = B := ⟨_, rfl⟩
 obtain ⟨ca, hca⟩ : ∃ ca, crV A = ca := ⟨_, rfl⟩
 obtain ⟨cb, hcb⟩ : ∃ cb, crV B = cb := ⟨_, rfl⟩
 have HFin := J (fun (W : World) (hat : G.At W gt 171 (trgA ⟨3, tv, 0, ca, cb⟩)) (hc : G.Chg (fun b => b = gt) w W) => (show TimedPost w gt ws (.returned (.bool (G.cronOk A && G.cronOk B))) W from by
  refine ⟨by rw [HOk.u, hA, hB]; rfl, ⟨_, hat, fun h => ?_⟩, hc⟩
  unfold timedN
  rw [if_pos h, hA, hB]
  rw [HOk.u, hA, hB, Bool.true_and, Bool.and_eq_true] at h
  rw [← hca, ← hcb, htv]
  unfold crV
  rw [if_pos h.1, if_pos h.2]))
 have hkn : (slashAt ws).toNat = kn := by rw [HK.u]; rfl
 have k2 : 2 ≤ kn := by omega
 have k3 : kn < n := by omega
 have HJA := J (fun (W : World) (hc : G.Chg (fun b => b = gt) w W) => (show Calls Tryz.prog 51 #[.slice (some ⟨bw, 2, none⟩) (kn - 2) (n - 2), .string ⟨#[32]⟩] W fun e w' => e = .returned (.string A) ∧ Below W.heap.size W w' from by
  have h9 := joinWords bw ws ((ws.take kn).drop 2) 2 (kn - 2) (n - 2) W (by have := ((HWc.u W hc).take kn).drop 2; rwa [Nat.zero_add] at this) (by rw [List.length_drop, List.length_take, HN.u]; omega) (by omega) (fun x hx => HS.u x (List.mem_of_mem_take (List.mem_of_mem_drop hx))) (by omega)
  rw [show G.joinB 32 ((ws.take kn).drop 2) = A by rw [← hA]; unfold spanA; rw [hkn]] at h9
  exact h9))
 have HJB := J (fun (W : World) (hc : G.Chg (fun b => b = gt) w W) (hlt : kn + 1 < n) => (show Calls Tryz.prog 51 #[.slice (some ⟨bw, kn + 1, none⟩) (n - (kn + 1)) (n - (kn + 1)), .string ⟨#[32]⟩] W fun e w' => e = .returned (.string B) ∧ Below W.heap.size W w' from by
  have h9 := joinWords bw ws (ws.drop (kn + 1)) (kn + 1) (n - (kn + 1)) (n - (kn + 1)) W (by have := (HWc.u W hc).drop (kn + 1); rwa [Nat.zero_add] at this) (by rw [List.length_drop, HN.u]) (Nat.le_refl _) (fun x hx => HS.u x (List.mem_of_mem_drop hx)) (by omega)
  rw [show G.joinB 32 (ws.drop (kn + 1)) = B by rw [← hB]; unfold spanB; rw [hkn]] at h9
  exact h9))
 have HJz := J (fun (W : World) (he : kn + 1 = n) => (show Calls Tryz.prog 51 #[.slice (some ⟨bw, 0, none⟩) 0 0, .string ⟨#[32]⟩] W fun e w' => e = .returned (.string B) ∧ Below W.heap.size W w' from by
  refine (Tryz.strings_Join_none (some ⟨bw, 0, none⟩) 0 ⟨#[32]⟩ W).mono ?_
  rintro e w' ⟨rfl, rfl⟩
  refine ⟨?_, Below.refl _ _⟩
  rw [← hB]; unfold spanB; rw [hkn, List.drop_eq_nil_of_le (by rw [HN.u]; omega)]; rfl))
 have HPA := J (fun (W : World) hm => parseCr A ca hca m W hm)
 have HPB := J (fun (W : World) hm => parseCr B cb hcb m W hm)
 have HCa := J (code_is A); have HCb := J (code_is B)
 generalize G.cronCode A = xa at HPA HCa
 generalize G.cronCode B = xb at HPB HCb
 have j2 : (2 : Int) ≤ (kn : Int) := by omega
 have j3 : (kn : Int) < (n : Int) := by omega
 have j4 : (kn : Int) ≤ (n : Int) := by omega
 have c0 := HM.u.at_.here (i := 0) rfl
 have p0 := HM.u.at_.soft 0
 have H3 := J (show G.At (W2.setCell ⟨gt, 0, none⟩ (.int .i64 3)) gt 171 (trgA ⟨3, tv, 0, crZ, crZ⟩) from HM.u.at_.put 0 (.int .i64 3))
 have HC3 := J (HM.u.chg.put (p := ⟨gt, 0, none⟩) (.inl rfl) (.int .i64 3))
 clear hqt h2 htv hA hB hca hcb hkn HOk HK HTv HQ k0 k1 h0 hl
 as_aux_lemma =>
 go_upto_region 6 with fail
 clear c0 p0 HM
 generalize W2.setCell ⟨gt, 0, none⟩ (.int .i64 3) = W3 at H3 HC3 ⊢
 go_wp2_with fail
 refine (HJA.u W3 HC3.u).mono ?_
 rintro e W4 ⟨rfl, hb4⟩
 have H4 := J (H3.u.below hb4 H3.u.inside)
 have HC4 := J (HC3.u.step_below hb4 HC3.u.size)
 clear hb4 H3 HC3 HJA
 go_wp2_with fail
 refine (HPA.u W4 (HMc.u W4 HC4.u)).mono ?_
 rintro e W5 ⟨rfl, hb5⟩
 have H5 := J (H4.u.below hb5 H4.u.inside)
 have HC5 := J (HC4.u.step_below hb5 HC4.u.size)
 clear hb5 H4 HC4 HPA
 have c3 := H5.u.here (i := 3) rfl; have p3 := H5.u.soft 3
 have c4 := H5.u.here (i := 4) rfl; have p4 := H5.u.soft 4
 have c5 := H5.u.here (i := 5) rfl; have p5 := H5.u.soft 5
 have c6 := H5.u.here (i := 6) rfl; have p6 := H5.u.soft 6
 have c7 := H5.u.here (i := 7) rfl; have p7 := H5.u.soft 7
 have c8 := H5.u.here (i := 8) rfl; have p8 := H5.u.soft 8
 have c9 := H5.u.here (i := 9) rfl; have p9 := H5.u.soft 9
 go_upto_region 7 with fail
 clear c3 c4 c5 c6 c7 c8 c9 p3 p4 p5 p6 p7 p8 p9
 have H6 := J (show G.At (((((((W5.setCell ⟨gt, 3, none⟩ (.int .u64 (ca.mi : Int))).setCell ⟨gt, 4, none⟩ (.int .u64 (ca.h : Int))).setCell ⟨gt, 5, none⟩ (.int .u64 (ca.d : Int))).setCell ⟨gt, 6, none⟩ (.int .u64 (ca.mo : Int))).setCell ⟨gt, 7, none⟩ (.int .u64 (ca.wk : Int))).setCell ⟨gt, 8, none⟩ (.bool ca.ad)).setCell ⟨gt, 9, none⟩ (.bool ca.aw)) gt 171 (trgA ⟨3, tv, 0, ca, crZ⟩) from (((((((H5.u.put 3 (.int .u64 (ca.mi : Int))).put 4 (.int .u64 (ca.h : Int))).put 5 (.int .u64 (ca.d : Int))).put 6 (.int .u64 (ca.mo : Int))).put 7 (.int .u64 (ca.wk : Int))).put 8 (.bool ca.ad)).put 9 (.bool ca.aw)))
 have HC6 := J (((((((HC5.u.put (p := ⟨gt, 3, none⟩) (.inl rfl) (.int .u64 (ca.mi : Int))).put (p := ⟨gt, 4, none⟩) (.inl rfl) (.int .u64 (ca.h : Int))).put (p := ⟨gt, 5, none⟩) (.inl rfl) (.int .u64 (ca.d : Int))).put (p := ⟨gt, 6, none⟩) (.inl rfl) (.int .u64 (ca.mo : Int))).put (p := ⟨gt, 7, none⟩) (.inl rfl) (.int .u64 (ca.wk : Int))).put (p := ⟨gt, 8, none⟩) (.inl rfl) (.bool ca.ad)).put (p := ⟨gt, 9, none⟩) (.inl rfl) (.bool ca.aw))
 clear H5 HC5
 generalize (((((((W5.setCell ⟨gt, 3, none⟩ (.int .u64 (ca.mi : Int))).setCell ⟨gt, 4, none⟩ (.int .u64 (ca.h : Int))).setCell ⟨gt, 5, none⟩ (.int .u64 (ca.d : Int))).setCell ⟨gt, 6, none⟩ (.int .u64 (ca.mo : Int))).setCell ⟨gt, 7, none⟩ (.int .u64 (ca.wk : Int))).setCell ⟨gt, 8, none⟩ (.bool ca.ad)).setCell ⟨gt, 9, none⟩ (.bool ca.aw)) = W6 at H6 HC6 ⊢
 as_aux_lemma =>
 by_cases hz : kn + 1 = n
 ·have HJ := J (HJz.u W6 hz)
  clear HJB HJz HN
  subst hz
  go_wp2_with fail
  refine HJ.u.mono ?_
  rintro e W7 ⟨rfl, hb7⟩
  have H7 := J (H6.u.below hb7 H6.u.inside)
  have HC7 := J (HC6.u.step_below hb7 HC6.u.size)
  clear hb7 H6 HC6 HJ
  go_wp2_with fail
  refine (HPB.u W7 (HMc.u W7 HC7.u)).mono ?_
  rintro e W8 ⟨rfl, hb8⟩
  have H8 := J (H7.u.below hb8 H7.u.inside)
  have HC8 := J (HC7.u.step_below hb8 HC7.u.size)
  clear hb8 H7 HC7 HPB
  have c10 := H8.u.here (i := 10) rfl; have p10 := H8.u.soft 10
  have c11 := H8.u.here (i := 11) rfl; have p11 := H8.u.soft 11
  have c12 := H8.u.here (i := 12) rfl; have p12 := H8.u.soft 12
  have c13 := H8.u.here (i := 13) rfl; have p13 := H8.u.soft 13
  have c14 := H8.u.here (i := 14) rfl; have p14 := H8.u.soft 14
  have c15 := H8.u.here (i := 15) rfl; have p15 := H8.u.soft 15
  have c16 := H8.u.here (i := 16) rfl; have p16 := H8.u.soft 16
  have HF := J (HFin.u _ (show G.At (((((((W8.setCell ⟨gt, 10, none⟩ (.int .u64 (cb.mi : Int))).setCell ⟨gt, 11, none⟩ (.int .u64 (cb.h : Int))).setCell ⟨gt, 12, none⟩ (.int .u64 (cb.d : Int))).setCell ⟨gt, 13, none⟩ (.int .u64 (cb.mo : Int))).setCell ⟨gt, 14, none⟩ (.int .u64 (cb.wk : Int))).setCell ⟨gt, 15, none⟩ (.bool cb.ad)).setCell ⟨gt, 16, none⟩ (.bool cb.aw)) gt 171 (trgA ⟨3, tv, 0, ca, cb⟩) from (((((((H8.u.put 10 (.int .u64 (cb.mi : Int))).put 11 (.int .u64 (cb.h : Int))).put 12 (.int .u64 (cb.d : Int))).put 13 (.int .u64 (cb.mo : Int))).put 14 (.int .u64 (cb.wk : Int))).put 15 (.bool cb.ad)).put 16 (.bool cb.aw))) (((((((HC8.u.put (p := ⟨gt, 10, none⟩) (.inl rfl) (.int .u64 (cb.mi : Int))).put (p := ⟨gt, 11, none⟩) (.inl rfl) (.int .u64 (cb.h : Int))).put (p := ⟨gt, 12, none⟩) (.inl rfl) (.int .u64 (cb.d : Int))).put (p := ⟨gt, 13, none⟩) (.inl rfl) (.int .u64 (cb.mo : Int))).put (p := ⟨gt, 14, none⟩) (.inl rfl) (.int .u64 (cb.wk : Int))).put (p := ⟨gt, 15, none⟩) (.inl rfl) (.bool cb.ad)).put (p := ⟨gt, 16, none⟩) (.inl rfl) (.bool cb.aw)))
  clear HFin H8 HC8
  go_upto_region 8 with fail
  clear c10 c11 c12 c13 c14 c15 c16 p10 p11 p12 p13 p14 p15 p16
  generalize (((((((W8.setCell ⟨gt, 10, none⟩ (.int .u64 (cb.mi : Int))).setCell ⟨gt, 11, none⟩ (.int .u64 (cb.h : Int))).setCell ⟨gt, 12, none⟩ (.int .u64 (cb.d : Int))).setCell ⟨gt, 13, none⟩ (.int .u64 (cb.mo : Int))).setCell ⟨gt, 14, none⟩ (.int .u64 (cb.wk : Int))).setCell ⟨gt, 15, none⟩ (.bool cb.ad)).setCell ⟨gt, 16, none⟩ (.bool cb.aw)) = W9 at HF ⊢
  have qa := HCa.u
  have qb := HCb.u
  generalize G.cronOk A = oa at HF qa
  generalize G.cronOk B = ob at HF qb
  cases oa
  ·go_wp2_with fail
   go_ret
   exact HF.u
  cases ob
  ·go_wp2_with fail
   go_ret
   exact HF.u
  go_wp2_with fail
  go_ret
  exact HF.u
 have hz2 : kn + 1 < n := by omega
 have hz3 : (kn : Int) + 1 < (n : Int) := by omega
 have HJ := J (HJB.u W6 HC6.u hz2)
 clear HJB HJz HN hz
 go_wp2_with fail
 refine HJ.u.mono ?_
 rintro e W7 ⟨rfl, hb7⟩
 have H7 := J (H6.u.below hb7 H6.u.inside)
 have HC7 := J (HC6.u.step_below hb7 HC6.u.size)
 clear hb7 H6 HC6 HJ
 go_wp2_with fail
 refine (HPB.u W7 (HMc.u W7 HC7.u)).mono ?_
 rintro e W8 ⟨rfl, hb8⟩
 have H8 := J (H7.u.below hb8 H7.u.inside)
 have HC8 := J (HC7.u.step_below hb8 HC7.u.size)
 clear hb8 H7 HC7 HPB
 have c10 := H8.u.here (i := 10) rfl; have p10 := H8.u.soft 10
 have c11 := H8.u.here (i := 11) rfl; have p11 := H8.u.soft 11
 have c12 := H8.u.here (i := 12) rfl; have p12 := H8.u.soft 12
 have c13 := H8.u.here (i := 13) rfl; have p13 := H8.u.soft 13
 have c14 := H8.u.here (i := 14) rfl; have p14 := H8.u.soft 14
 have c15 := H8.u.here (i := 15) rfl; have p15 := H8.u.soft 15
 have c16 := H8.u.here (i := 16) rfl; have p16 := H8.u.soft 16
 have HF := J (HFin.u _ (show G.At (((((((W8.setCell ⟨gt, 10, none⟩ (.int .u64 (cb.mi : Int))).setCell ⟨gt, 11, none⟩ (.int .u64 (cb.h : Int))).setCell ⟨gt, 12, none⟩ (.int .u64 (cb.d : Int))).setCell ⟨gt, 13, none⟩ (.int .u64 (cb.mo : Int))).setCell ⟨gt, 14, none⟩ (.int .u64 (cb.wk : Int))).setCell ⟨gt, 15, none⟩ (.bool cb.ad)).setCell ⟨gt, 16, none⟩ (.bool cb.aw)) gt 171 (trgA ⟨3, tv, 0, ca, cb⟩) from (((((((H8.u.put 10 (.int .u64 (cb.mi : Int))).put 11 (.int .u64 (cb.h : Int))).put 12 (.int .u64 (cb.d : Int))).put 13 (.int .u64 (cb.mo : Int))).put 14 (.int .u64 (cb.wk : Int))).put 15 (.bool cb.ad)).put 16 (.bool cb.aw))) (((((((HC8.u.put (p := ⟨gt, 10, none⟩) (.inl rfl) (.int .u64 (cb.mi : Int))).put (p := ⟨gt, 11, none⟩) (.inl rfl) (.int .u64 (cb.h : Int))).put (p := ⟨gt, 12, none⟩) (.inl rfl) (.int .u64 (cb.d : Int))).put (p := ⟨gt, 13, none⟩) (.inl rfl) (.int .u64 (cb.mo : Int))).put (p := ⟨gt, 14, none⟩) (.inl rfl) (.int .u64 (cb.wk : Int))).put (p := ⟨gt, 15, none⟩) (.inl rfl) (.bool cb.ad)).put (p := ⟨gt, 16, none⟩) (.inl rfl) (.bool cb.aw)))
 clear HFin H8 HC8
 go_upto_region 8 with fail
 clear c10 c11 c12 c13 c14 c15 c16 p10 p11 p12 p13 p14 p15 p16
 generalize (((((((W8.setCell ⟨gt, 10, none⟩ (.int .u64 (cb.mi : Int))).setCell ⟨gt, 11, none⟩ (.int .u64 (cb.h : Int))).setCell ⟨gt, 12, none⟩ (.int .u64 (cb.d : Int))).setCell ⟨gt, 13, none⟩ (.int .u64 (cb.mo : Int))).setCell ⟨gt, 14, none⟩ (.int .u64 (cb.wk : Int))).setCell ⟨gt, 15, none⟩ (.bool cb.ad)).setCell ⟨gt, 16, none⟩ (.bool cb.aw)) = W9 at HF ⊢
 have qa := HCa.u
 have qb := HCb.u
 generalize G.cronOk A = oa at HF qa
 generalize G.cronOk B = ob at HF qb
 cases oa
 ·go_wp2_with fail
  go_ret
  exact HF.u
 cases ob
 ·go_wp2_with fail
  go_ret
  exact HF.u
 go_wp2_with fail
 go_ret
 exact HF.u
end Go.Proofs.YtoidcbpcnikejaaGreatDoor
