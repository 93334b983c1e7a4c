/- The walk of NeedGrows. -/
import Derived.Test.YtikjefghpnffkaaNeedE
import Derived.Test.YtikjefghpnffkaaRestC
import Derived.Handy
import Derived.RegionTactic
import Derived.BigRegion
import Derived.Deep.QuietTactic
import Derived.BigQuiet
import Derived.Deep.RegionLaw
import Derived.Deep.RegionHeld3
import Derived.Deep.AppendLies
import Derived.StillTailTactics
namespace Go.Proofs.Ytikjefghpnffkaa
open Go.RowKit
set_option linter.unusedVariables false
theorem needInfo : (Try.prog.info? 3).map (fun i => (i.zero, i.size, i.bytes)) = some (some (.int .i64 0), 1, 8) := by kernel_rfl
set_option maxHeartbeats 400000 in
theorem restBig (n m : Int) (w : World) (hm : 1 ≤ m) (hm' : m ≤ 4000000000000000000) : Calls Try.prog 18 #[.int .i64 n, .int .i64 m] w fun e w' => e = .returned (.int .i64 (n % m)) ∧ w = w' := by
  obtain ⟨h, b0, b1⟩ := rest_of (n := n) (show 0 < m by omega)
  have he := Lib.hid h
  clear h
  by_cases hn : n.tmod m < 0
  · go_enter Try.func18, Try.ntmps18
    go_wp2
    go_ret
    exact ⟨rest_ret (by have := he.out; rw [if_pos hn] at this; exact this), rfl⟩
  · go_enter Try.func18, Try.ntmps18
    go_wp2
    go_ret
    exact ⟨rest_ret (by have := he.out; rw [if_neg (by omega)] at this; exact this), rfl⟩
/-- slices.Clone of numbers that lie anywhere -/
def NumClone (w : World) (xs : List Int) (e : Ending) (w' : World) : Prop := ∃ g cap, e = .returned (.slice (some ⟨g, 0, none⟩) xs.length cap) ∧ w.heap.size ≤ g ∧ Tide.RowIn w' g 3 cap (xs.map (.int .i64)) ∧ Below w.heap.size w w'
set_option maxRecDepth 100000 in
set_option maxHeartbeats 4000000 in
theorem numClone (A : Option Addr) (cap : Nat) (xs : List Int) (w : World) (hx : NumsIn w A xs) (h0 : 0 < xs.length) (hl : xs.length * 8 ≤ 140737488355328) :
    Calls Try.prog 28 #[.slice A xs.length cap] w (NumClone w xs) := by
  obtain ⟨b, off, rfl, hbl, hc⟩ := hx h0
  have hq := fun w => Lib.run_eql_slice_nil (P := Try.prog) w 51 3 (some ⟨b, off, none⟩) xs.length cap 0 0 Try.underlying51
  obtain ⟨i0, hi0, hz0, hz1, hz2⟩ := info_parts needInfo
  have HC := Lib.hid hc; have H0 := Lib.hid h0
  have hown : (w.alloc (.cells #[] 3)).ownsRow w.heap.size 3 1 (.slice (some ⟨w.heap.size, 0, none⟩) 0 0) 0 [] := World.ownsRow_made w #[] 0 (Nat.le_refl _) (Nat.zero_le _) rfl
  have HO := Lib.hid hown
  have HLen := Lib.hid (show (xs.map (Value.int .i64)).length = xs.length * 1 by simp)
  have H1 := Lib.hid (show ∀ u ∈ xs.map (Value.int .i64), u.oneCell' = true from fun u hu => by obtain ⟨x, _, rfl⟩ := List.mem_map.1 hu; rfl)
  have hm3 := Lib.hid (show 0 + xs.length ≤ maxLen by simp only [maxLen]; omega)
  have hm4 := Lib.hid (show (0 + xs.length) * 8 ≤ 140737488355328 by omega)
  clear hc hown h0 hl hx
  go_enter Try.func28, Try.ntmps28
  go_wp2_with (at_builtin; refine wpList_append_own _ (by rfl) (.tmp 5) (.tmp 6) 51 (by rfl) w.heap.size 3 i0 (.int .i64 0) 1 8 Try.underlying51 hi0 hz0 hz1 hz2 rfl (by decide) _ _ _ rfl HO.out ⟨b, off, none⟩ xs.length cap (xs.map (.int .i64)) rfl HLen.out ?c1 H1.out hm3.out hm4.out ?c5 ?_)
  case c1 => exact fun j u hu => by
              rw [List.getElem?_map] at hu
              cases hj : xs[j]? with
              | none => rw [hj] at hu; cases hu
              | some x =>
                rw [hj] at hu
                have e : Value.int .i64 x = u := by simpa using hu
                subst e
                rw [Addr.add_lit]
                exact (((Below.refl w.heap.size w).alloc (Nat.le_refl _) (.cells #[] 3)).cell (p := ⟨b, off + j, none⟩) hbl).trans (HC.out j x hj)
  case c5 => simp
  intro v' w1 hown1 hg1 _
  have HF := Lib.hid (show NumClone w xs (.returned v') w1 from by
    have hr : Tide.OwnRow (fun b => w.heap.size ≤ b) w1 3 1 v' xs.length (xs.map (.int .i64)) := Tide.OwnRow.of_owns hown1 (Tide.own_ge hown1)
    obtain ⟨g, cap', rfl, hg, _, _, hrow⟩ := hr.form H0.out
    rw [Nat.mul_one] at hrow
    exact ⟨g, cap', rfl, hg, hrow, (((Below.refl _ w).alloc (Nat.le_refl _) _)).grown hg1 (by simp) (fun k hk => by simp [Value.ownBlock] at hk; omega)⟩)
  clear hown1 hg1
  go_wp2_with fail
  go_ret
  exact HF.out
theorem row_nums {w : World} {g cap : Nat} {xs : List Int} (h : Tide.RowIn w g 3 cap (xs.map (.int .i64))) : NumsIn w (some ⟨g, 0, none⟩) xs := fun _ => ⟨g, 0, rfl, h.inside, fun i x hx => by
  rw [Nat.zero_add]
  exact h.cell (by rw [List.getElem?_map, hx]; rfl)⟩
set_option maxRecDepth 1000000 in
theorem grow_fact : needR ⟨0, 0, 0, 0, 0, false, false⟩ ⟨0, 0, 0, 0, 0, false, false⟩ 2 3 6 0 0 false (Tide.metN 2 (Tide.spot [7]) 1) ((Tide.metM 2 (Tide.spot [7]) 1 : Nat) : Int) = (3, true, 0) := by
  unfold needR
  rw [if_neg (by decide), if_neg (by decide)]
  decide +kernel
theorem spot_set {xs : List Int} {K : Nat} {x y : Int} (hK : xs[K]? = some x) (h : x ≤ y) (i : Nat) : Tide.spot xs i ≤ Tide.spot (xs.set K y) i := by
  unfold Tide.spot
  by_cases hi : K = i
  · subst hi
    have hlt := Tide.get_lt hK
    rw [hK, List.getElem?_set_self hlt]
    exact h
  · rw [List.getElem?_set_ne hi]; exact Int.le_refl _
theorem grows_law {a b : Cr} {kind target act : Int} {f g : Nat → Int} {n : Nat} (hk : kind ≠ 3) (h : ∀ i, f i ≤ g i) :
    (needR a b kind target act 0 0 false (Tide.metN kind f n) ((Tide.metM kind f n : Nat) : Int) = (0, false, 1) ∧ needR a b kind target act 0 0 false (Tide.metN kind g n) ((Tide.metM kind g n : Nat) : Int) = (0, false, 1)) ∨
    ∃ (p q : Int) (x y : Bool), needR a b kind target act 0 0 false (Tide.metN kind f n) ((Tide.metM kind f n : Nat) : Int) = (p, x, 0) ∧ needR a b kind target act 0 0 false (Tide.metN kind g n) ((Tide.metM kind g n : Nat) : Int) = (q, y, 0) ∧ p ≤ q ∧ 0 ≤ p ∧ (x = true → y = true) := by
  unfold needR
  by_cases hb : kind < 1 ∨ 3 < kind ∨ target < 1
  · left; rw [if_pos hb, if_pos hb]; exact ⟨rfl, rfl⟩
  · right
    rw [if_neg hb, if_neg hb, if_neg hk, if_neg hk]
    obtain ⟨m1, m2⟩ := Tide.met_mono (kind := kind) h n
    have n0 := Tide.metN_bd kind f n
    have ht : 1 ≤ target := by omega
    have c1 := Tide.ceil_mono m1 ht
    have c2 := Tide.ceil_pos n0.1 ht
    generalize Tide.metN kind f n = N at m1 n0 c1 c2 ⊢
    generalize Tide.metN kind g n = N' at m1 c1 ⊢
    generalize Tide.metM kind f n = M at m2 ⊢
    generalize Tide.metM kind g n = M' at m2 ⊢
    generalize Tide.ceilc N target = C at c1 c2 ⊢
    generalize Tide.ceilc N' target = C' at c1 ⊢
    refine ⟨_, _, _, _, rfl, rfl, ?_, ?_, fun hx => ?_⟩
    · split <;> omega
    · split <;> omega
    · have := of_decide_eq_true hx
      exact decide_eq_true (by omega)
set_option maxRecDepth 100000 in
set_option maxHeartbeats 6400000 in
theorem needGrows_walk (ai ah ad am aw bi bh bd bm bw : Nat) (aa ab ba bb : Bool) (ha : Cr.fits ⟨ai, ah, ad, am, aw, aa, ab⟩) (hb : Cr.fits ⟨bi, bh, bd, bm, bw, ba, bb⟩) (kind target act i more : Int) (A : Option Addr) (cap : Nat) (xs : List Int) (w : World) (hx : NumsIn w A xs) (hl : xs.length * 8 ≤ 140737488355328) (hr : ∀ x ∈ xs, -9223372036854775808 ≤ x ∧ x ≤ 9223372036854775807) : Calls Try.prog 9 #[.agg #[.int .i64 kind, .int .i64 target, .int .i64 act, .int .u64 (ai : Int), .int .u64 (ah : Int), .int .u64 (ad : Int), .int .u64 (am : Int), .int .u64 (aw : Int), .bool aa, .bool ab, .int .u64 (bi : Int), .int .u64 (bh : Int), .int .u64 (bd : Int), .int .u64 (bm : Int), .int .u64 (bw : Int), .bool ba, .bool bb], .slice A xs.length cap, .int .i64 i, .int .i64 more] w fun e w' => e = .returned (.bool true) ∧ Below w.heap.size w w' := by
  have HB := Lib.hid (((Below.refl w.heap.size w).alloc (Nat.le_refl _) (.cells #[.int .i64 kind, .int .i64 target, .int .i64 act, .int .u64 (ai : Int), .int .u64 (ah : Int), .int .u64 (ad : Int), .int .u64 (am : Int), .int .u64 (aw : Int), .bool aa, .bool ab, .int .u64 (bi : Int), .int .u64 (bh : Int), .int .u64 (bd : Int), .int .u64 (bm : Int), .int .u64 (bw : Int), .bool ba, .bool bb] 50)).alloc (by simp) (.cells #[.int .i64 7] 3))
  have HT := Lib.hid ((Tide.At.made w 50 #[.int .i64 kind, .int .i64 target, .int .i64 act, .int .u64 (ai : Int), .int .u64 (ah : Int), .int .u64 (ad : Int), .int .u64 (am : Int), .int .u64 (aw : Int), .bool aa, .bool ab, .int .u64 (bi : Int), .int .u64 (bh : Int), .int .u64 (bd : Int), .int .u64 (bm : Int), .int .u64 (bw : Int), .bool ba, .bool bb]).alloc (.cells #[.int .i64 7] 3))
  have HN := Lib.hid (hx.below HB.out (Nat.le_refl _))
  have H1 := Lib.hid (nums_one (x := 7) (show (w.alloc (.cells #[.int .i64 kind, .int .i64 target, .int .i64 act, .int .u64 (ai : Int), .int .u64 (ah : Int), .int .u64 (ad : Int), .int .u64 (am : Int), .int .u64 (aw : Int), .bool aa, .bool ab, .int .u64 (bi : Int), .int .u64 (bh : Int), .int .u64 (bd : Int), .int .u64 (bm : Int), .int .u64 (bw : Int), .bool ba, .bool bb] 50)).heap.size = w.heap.size + 1 by simp))
  have HO0 := Lib.hid (fun (W : World) (hW : NumsIn W (some ⟨w.heap.size + 1, 0, none⟩) [7]) => needOf 0 0 0 0 0 0 0 0 0 0 false false false false zero_fits zero_fits 2 3 6 0 0 false (some ⟨w.heap.size + 1, 0, none⟩) 1 [7] W hW (by decide))
  have HO := Lib.hid (fun (W : World) (A : Option Addr) (cap : Nat) (ys : List Int) (hW : NumsIn W A ys) (hy : ys.length = xs.length) => needOf ai ah ad am aw bi bh bd bm bw aa ab ba bb ha hb kind target act 0 0 false A cap ys W hW (by omega))
  have HL := Lib.hid hl; have HRg := Lib.hid hr
  clear hx ha hb hl hr
  go_enter Try.func9, Try.ntmps9
  go_wp2_with fail
  refine (HO0.out _ H1.out).mono ?_
  rintro e w1 ⟨rfl, hb1⟩
  rw [show ([7] : List Int).length = 1 from rfl, grow_fact]
  have HB1 := Lib.hid (HB.out.trans (hb1.mono HB.out.size))
  have HT1 := Lib.hid (HT.out.below hb1 HT.out.inside)
  have HN1 := Lib.hid (HN.out.below hb1 (Nat.le_refl _))
  clear hb1 HB HT HN H1 HO0
  go_upto_region 2 with fail
  have HB2 := Lib.hid (HB1.out.alloc HB1.out.size (.cells #[.int .i64 3, .bool true] 53))
  have HT2 := Lib.hid (HT1.out.alloc (.cells #[.int .i64 3, .bool true] 53))
  have HG2 := Lib.hid (Tide.At.made w1 53 #[.int .i64 3, .bool true])
  have HN2 := Lib.hid (HN1.out.below ((Below.refl w1.heap.size w1).alloc (Nat.le_refl _) (.cells #[.int .i64 3, .bool true] 53)) (Nat.le_refl _))
  generalize w1.alloc (.cells #[.int .i64 3, .bool true] 53) = W2 at HB2 HT2 HG2 HN2 ⊢
  generalize w1.heap.size = g0 at HG2 ⊢
  clear HB1 HT1 HN1
  have z0 := HT2.out.here (i := 0) rfl; have z1 := HT2.out.here (i := 1) rfl; have z2 := HT2.out.here (i := 2) rfl; have z3 := HT2.out.here (i := 3) rfl; have z4 := HT2.out.here (i := 4) rfl; have z5 := HT2.out.here (i := 5) rfl; have z6 := HT2.out.here (i := 6) rfl; have z7 := HT2.out.here (i := 7) rfl; have z8 := HT2.out.here (i := 8) rfl; have z9 := HT2.out.here (i := 9) rfl; have z10 := HT2.out.here (i := 10) rfl; have z11 := HT2.out.here (i := 11) rfl; have z12 := HT2.out.here (i := 12) rfl; have z13 := HT2.out.here (i := 13) rfl; have z14 := HT2.out.here (i := 14) rfl; have z15 := HT2.out.here (i := 15) rfl; have z16 := HT2.out.here (i := 16) rfl
  have y0 := HG2.out.here (i := 0) rfl; have y1 := HG2.out.here (i := 1) rfl
  by_cases k3 : kind = 3
  · subst k3
    go_wp2_with fail
    go_ret
    exact ⟨rfl, HB2.out⟩
  by_cases l0 : xs.length = 0
  · have l0' : (xs.length : Int) = 0 := by omega
    clear l0
    go_wp2_with fail
    all_goals
      go_ret
      exact ⟨rfl, HB2.out⟩
  have H0 := Lib.hid (show 0 < xs.length by omega)
  have l2 : (0 : Int) < (xs.length : Int) := by omega
  have l1 : ((xs.length : Int) == 0) = false := by rw [beq_eq_false_iff_ne]; omega
  clear l0
  go_wp2_with fail
  refine (HO.out _ A cap xs HN2.out rfl).mono ?_
  rintro e w3 ⟨rfl, hb3⟩
  have HB3 := Lib.hid (HB2.out.trans (hb3.mono HB2.out.size))
  have HT3 := Lib.hid (HT2.out.below hb3 HT2.out.inside)
  have HN3 := Lib.hid (HN2.out.below hb3 (Nat.le_refl _))
  clear hb3 z0 z1 z2 z3 z4 z5 z6 z7 z8 z9 z10 z11 z12 z13 z14 z15 z16 y0 y1 HB2 HT2 HN2 HG2
  obtain ⟨K, hK⟩ : ∃ K : Nat, i % (xs.length : Int) = (K : Int) := ⟨(i % (xs.length : Int)).toNat, by have := Int.emod_nonneg i (show (xs.length : Int) ≠ 0 by omega); omega⟩
  have hKl : K < xs.length := by have := Int.emod_lt_of_pos i (show (0 : Int) < (xs.length : Int) by have := H0.out; omega); omega
  obtain ⟨x, hx⟩ := Tide.get_some xs hKl
  have hxr := HRg.out x (List.mem_of_getElem? hx)
  obtain ⟨m0, hm0⟩ : ∃ m0, max x 0 = m0 := ⟨_, rfl⟩
  obtain ⟨v, hv⟩ : ∃ v, Tide.addc m0 (more % 1000) = v := ⟨_, rfl⟩
  obtain ⟨nx, hnx⟩ : ∃ nx, max x v = nx := ⟨_, rfl⟩
  have HLaw := Lib.hid (grows_law (a := ⟨ai, ah, ad, am, aw, aa, ab⟩) (b := ⟨bi, bh, bd, bm, bw, ba, bb⟩) (target := target) (act := act) (n := xs.length) k3 (spot_set hx (show x ≤ nx by omega)))
  have HO2 := Lib.hid (fun (W : World) (cap : Nat) (g : Nat) (hW : NumsIn W (some ⟨g, 0, none⟩) (xs.set K nx)) => HO.out W (some ⟨g, 0, none⟩) cap (xs.set K nx) hW (by simp))
  have HMod := Lib.hid hK
  have HV := Lib.hid hv
  have HX := Lib.hid hx
  clear HO hK hv hx k3 HRg
  obtain ⟨R, hR⟩ : ∃ R, (needR ⟨ai, ah, ad, am, aw, aa, ab⟩ ⟨bi, bh, bd, bm, bw, ba, bb⟩ kind target act 0 0 false (Tide.metN kind (Tide.spot xs) xs.length) ((Tide.metM kind (Tide.spot xs) xs.length : Nat) : Int)) = R := ⟨_, rfl⟩
  have hlaw := HLaw.out
  rw [hR] at hlaw ⊢
  clear HLaw hR
  have HLaw := Lib.hid hlaw
  clear hlaw
  go_upto_region 7 with fail
  have HB4 := Lib.hid (HB3.out.alloc HB3.out.size (.cells #[.int .i64 R.1, .bool R.2.1] 53))
  have HT4 := Lib.hid (HT3.out.alloc (.cells #[.int .i64 R.1, .bool R.2.1] 53))
  have HG4 := Lib.hid (Tide.At.made w3 53 #[.int .i64 R.1, .bool R.2.1])
  have HN4 := Lib.hid (HN3.out.below ((Below.refl w3.heap.size w3).alloc (Nat.le_refl _) (.cells #[.int .i64 R.1, .bool R.2.1] 53)) (Nat.le_refl _))
  generalize w3.alloc (.cells #[.int .i64 R.1, .bool R.2.1] 53) = W4 at HB4 HT4 HG4 HN4 ⊢
  generalize w3.heap.size = g1 at HG4 ⊢
  clear HB3 HT3 HN3
  go_wp2_with fail
  refine (restBig i (xs.length : Int) _ (by have := H0.out; omega) (by have := HL.out; omega)).mono ?_
  rintro e w5 ⟨rfl, rfl⟩
  rw [HMod.out]
  go_wp2_with fail
  refine (numClone A cap xs _ HN4.out H0.out HL.out).mono ?_
  rintro e w5 ⟨g, capg, rfl, hg, hrow, hb5⟩
  have HB5 := Lib.hid (HB4.out.trans (hb5.mono HB4.out.size))
  have HT5 := Lib.hid (HT4.out.below hb5 HT4.out.inside)
  have HG5 := Lib.hid (HG4.out.below hb5 HG4.out.inside)
  have HNe := Lib.hid (show w.heap.size ≠ g by have := HT4.out.inside; omega)
  have HNe1 := Lib.hid (show g1 ≠ g by have := HG4.out.inside; omega)
  have HGe := Lib.hid (show w.heap.size ≤ g by have := HB4.out.size; omega)
  have HRow := Lib.hid hrow
  clear hb5 hg hrow HB4 HT4 HG4 HN4
  have c0 : w5.cell? ⟨g, K, none⟩ = some (.int .i64 x) := HRow.out.cell (by rw [List.getElem?_map, HX.out]; rfl)
  have fz := HRow.out.soft K
  have i0 : (0 : Int) ≤ (K : Int) := by omega
  have i1 : (K : Int) < (xs.length : Int) := by omega
  have E1 : (if x < 0 then 0 else x) = m0 := by rw [← hm0]; split <;> omega
  have E2 : (if x < v then v else x) = nx := by rw [← hnx]; split <;> omega
  have HRest := Lib.hid (fun (W : World) => restBig more 1000 W (by decide) (by decide))
  have HAdd := Lib.hid (fun (W : World) => numAdd m0 (more % 1000) W)
  rw [HV.out] at HAdd
  clear hm0 hnx
  go_upto_region 9 with fail
  go_cut [66] (fun s wx => s = .int .i64 nx ∧ (w5.setCell ⟨g, K, none⟩ (.int .i64 nx)).drew = wx)
  case first =>
    as_aux_lemma =>
    refine wp_region_still_tail 16 (by kernel_rfl) (by kernel_rfl) ?_
    change wpStill _ _ w5.drew (fun a' => wpList _ _ _ _ a' w5.drew) _ _
    simp only [List.take_succ_cons, List.take_zero, List.drop_succ_cons, List.drop_zero]
    repeat still_step
    still_call ((HRest.out _).mono (fun _ _ h => ⟨h.1, h.2.symm⟩))
    still_call ((HAdd.out _).mono (fun _ _ h => ⟨h.1, h.2.symm⟩))
    repeat still_step
    try refine wpStill_nil ?_
    go_wp2_with fail
    go_meet
    exact ⟨rfl, rfl⟩
  case rest =>
  as_aux_lemma =>
  obtain ⟨rfl, rfl⟩ := hcut
  have HB6 := Lib.hid ((HB5.out.setCell (p := ⟨g, K, none⟩) HGe.out (.int .i64 nx)).drew)
  have HT6 := Lib.hid ((HT5.out.other (p := ⟨g, K, none⟩) HNe.out (.int .i64 nx)).drew)
  have HG6 := Lib.hid ((HG5.out.other (p := ⟨g, K, none⟩) HNe1.out (.int .i64 nx)).drew)
  have hr6 := (HRow.out.put (i := K) (by simpa using hKl) (.int .i64 nx)).drew
  rw [show (xs.map (Value.int .i64)).set K (.int .i64 nx) = (xs.set K nx).map (.int .i64) by rw [List.map_set]] at hr6
  have HN6 := Lib.hid (row_nums hr6)
  have HLen := Lib.hid (show xs.length = (xs.set K nx).length by simp)
  generalize (w5.setCell ⟨g, K, none⟩ (.int .i64 nx)).drew = W6 at HB6 HT6 HG6 HN6 ⊢
  clear c0 fz E1 E2 HRest HAdd HB5 HT5 HG5 HRow hr6 HNe HNe1 HGe HV HX HMod hxr
  have z0 := HT6.out.here (i := 0) rfl; have z1 := HT6.out.here (i := 1) rfl; have z2 := HT6.out.here (i := 2) rfl; have z3 := HT6.out.here (i := 3) rfl; have z4 := HT6.out.here (i := 4) rfl; have z5 := HT6.out.here (i := 5) rfl; have z6 := HT6.out.here (i := 6) rfl; have z7 := HT6.out.here (i := 7) rfl; have z8 := HT6.out.here (i := 8) rfl; have z9 := HT6.out.here (i := 9) rfl; have z10 := HT6.out.here (i := 10) rfl; have z11 := HT6.out.here (i := 11) rfl; have z12 := HT6.out.here (i := 12) rfl; have z13 := HT6.out.here (i := 13) rfl; have z14 := HT6.out.here (i := 14) rfl; have z15 := HT6.out.here (i := 15) rfl; have z16 := HT6.out.here (i := 16) rfl
  obtain ⟨R2, hR2⟩ : ∃ R2, (needR ⟨ai, ah, ad, am, aw, aa, ab⟩ ⟨bi, bh, bd, bm, bw, ba, bb⟩ kind target act 0 0 false (Tide.metN kind (Tide.spot (xs.set K nx)) xs.length) ((Tide.metM kind (Tide.spot (xs.set K nx)) xs.length : Nat) : Int)) = R2 := ⟨_, rfl⟩
  have hlaw := HLaw.out
  rw [hR2] at hlaw
  have ho2 := HO2.out W6 capg g HN6.out
  rw [← HLen.out, hR2] at ho2
  have HO3 := Lib.hid ho2
  have HLaw2 := Lib.hid hlaw
  clear ho2 hR2 hlaw HLaw HO2 HLen
  go_wp2_with fail
  refine HO3.out.mono ?_
  rintro e w7 ⟨rfl, hb7⟩
  have HB7 := Lib.hid (HB6.out.trans (hb7.mono HB6.out.size))
  have HG7 := Lib.hid (HG6.out.below hb7 HG6.out.inside)
  clear hb7 z0 z1 z2 z3 z4 z5 z6 z7 z8 z9 z10 z11 z12 z13 z14 z15 z16 HB6 HT6 HG6 HN6 HO3 i0 i1 hKl
  go_upto_region 11 with fail
  have HB8 := Lib.hid (HB7.out.alloc HB7.out.size (.cells #[.int .i64 R2.1, .bool R2.2.1] 53))
  have HG8 := Lib.hid (HG7.out.alloc (.cells #[.int .i64 R2.1, .bool R2.2.1] 53))
  have HK8 := Lib.hid (Tide.At.made w7 53 #[.int .i64 R2.1, .bool R2.2.1])
  generalize w7.alloc (.cells #[.int .i64 R2.1, .bool R2.2.1] 53) = W8 at HB8 HG8 HK8 ⊢
  generalize w7.heap.size = g2 at HK8 ⊢
  clear HB7 HG7
  rcases HLaw2.out with ⟨e1, e2⟩ | ⟨p, q, x1, x2, e1, e2, le, p0, hx12⟩
  · subst e1 e2
    have y0 := HG8.out.here (i := 0) rfl; have y1 := HG8.out.here (i := 1) rfl
    have v0 := HK8.out.here (i := 0) rfl; have v1 := HK8.out.here (i := 1) rfl
    go_wp2_with fail
    go_ret
    exact ⟨rfl, HB8.out⟩
  · subst e1 e2
    have y0 := HG8.out.here (i := 0) rfl; have y1 := HG8.out.here (i := 1) rfl
    have v0 := HK8.out.here (i := 0) rfl; have v1 := HK8.out.here (i := 1) rfl
    have H12 := Lib.hid hx12
    clear hx12 HLaw2
    cases x1 <;> cases x2
    case true.false => exact absurd (H12.out rfl) (by simp)
    all_goals
      go_wp2_with fail
      go_ret
      exact ⟨rfl, HB8.out⟩
end Go.Proofs.Ytikjefghpnffkaa
