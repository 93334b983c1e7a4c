/- The contract of (cron.field).item. -/
import Derived.Test.YthelnkoohbnjpaaDoorZTxt
import Derived.Test.YthelnkoohbnjpaaDoorRdnC
import Derived.Test.YthelnkoohbnjpaaDoorZCron
import Derived.Deep.CutBlock
set_option linter.unusedVariables false
set_option linter.unusedSimpArgs false
namespace Go.Proofs.YthelnkoohbnjpaaDoor
open Go.RowKit
set_option linter.unusedVariables false
/-- the two ends of an item -/
structure Ends (first last : Int) (s : ByteArray) (lo hi : Int) : Prop where
  low : Tide.itLo first s = lo
  high : Tide.itHi last s = hi
  bad : Tide.itBad s = false
  b1 : -1 ≤ lo
  b2 : lo ≤ 100
  b3 : -1 ≤ hi
  b4 : hi ≤ 100
def ItemRun (f : Nat) (L : List Nat) (hi ev : Int) (n : Int) (D : List Nat) : Prop := D ++ Tide.ticksF f n hi ev = L ∧ hi - n < f
theorem ItemRun.more {f : Nat} {L D : List Nat} {n hi ev : Int} (h : ItemRun f L hi ev n D) (hl : n ≤ hi) (he : 1 ≤ ev) : ∃ g, f = g + 1 ∧ ItemRun g L hi ev (n + ev) (D ++ [n.toNat]) := by
  obtain ⟨g, rfl, e⟩ := Tide.ticksF_more h.2 hl
  refine ⟨g, rfl, ?_, by have := h.2; omega⟩
  rw [List.append_assoc, List.singleton_append, ← e]; exact h.1
theorem ItemRun.done {f : Nat} {L D : List Nat} {n hi ev : Int} (h : ItemRun f L hi ev n D) (hl : hi < n) : D = L := by
  have := h.1
  rwa [Tide.ticksF_none hl, List.append_nil] at this
theorem ItemRun.mem {f : Nat} {L D : List Nat} {n hi ev : Int} (h : ItemRun f L hi ev n D) {x : Nat} (hx : x ∈ D) : x ∈ L := by rw [← h.1]; exact List.mem_append_left _ hx
theorem numL2 (l : List UInt8) : -1 ≤ Tide.numL 2 l ∧ Tide.numL 2 l ≤ 100 := by
  have := Tide.numL_bd 2 l
  have e : (10 : Int) ^ 2 = 100 := by decide
  omega
theorem ne_star {x : ByteArray} (h : x ≠ Tide.star) : (x.toList == [42]) = false := by
  rw [beq_eq_false_iff_ne]
  intro e
  apply h
  apply Tide.ba_ext
  rw [← ByteArray.toList_eq x, e]; rfl
theorem eq_star {x : ByteArray} (h : x = Tide.star) : (x.toList == [42]) = true := by
  subst h; rw [ByteArray.toList_eq]; rfl
set_option maxRecDepth 100000 in
set_option maxHeartbeats 3200000 in
theorem cronItem (first last : Nat) (a b : Value) (s : ByteArray) (m : Int) (w : World) (hs : s.size ≤ 1000000) (hl1 : first ≤ 60) (hl : last ≤ 60) (hm : w.cell? ⟨0, 0, none⟩ = some (.int .i64 m)) :
    Calls Tryd.prog 55 #[.agg #[a, .int .i64 first, .int .i64 last, b], .string s] w fun e w' => e = .returned (.int .u64 (Tide.maskN (Tide.itemN first last s) : Nat)) ∧ Below w.heap.size w w' := by
  have hx := Tide.cutX_size 47 s
  have hmax := World.block_lt_of_cell? _ _ hm
  have HM := Lib.hid hm
  have HX := Lib.hid (show (Tide.cutX 47 s).size ≤ 1000000 by omega)
  have HS := Lib.hid hs
  have f3 : (first : Int) ≤ 60 := by omega
  have f0 : (0 : Int) ≤ (first : Int) := by omega
  have f1 : (0 : Int) ≤ (last : Int) := by omega
  have f2 : (last : Int) ≤ 60 := by omega
  clear hx hs hm
  go_enter Tryd.func55, Tryd.ntmps55
  go_wp2_with fail
  have hb0 := (Below.refl w.heap.size w).alloc (Nat.le_refl _) (.cells #[a, .int .i64 (first : Int), .int .i64 (last : Int), b] 61)
  refine (shlCut 47 s m _ HS.out ((hb0.cell (p := ⟨0, 0, none⟩) hmax).trans HM.out)).mono ?_
  rintro e w1 ⟨rfl, hb1⟩
  have HB := Lib.hid (hb0.trans (hb1.mono (by simp)))
  have hc1 := (hb1.cell (p := ⟨w.heap.size, 1, none⟩) (by simp)).trans (show (w.alloc (.cells #[a, .int .i64 (first : Int), .int .i64 (last : Int), b] 61)).cell? ⟨w.heap.size, 1, none⟩ = some (.int .i64 (first : Int)) by simp)
  have hc2 := (hb1.cell (p := ⟨w.heap.size, 2, none⟩) (by simp)).trans (show (w.alloc (.cells #[a, .int .i64 (first : Int), .int .i64 (last : Int), b] 61)).cell? ⟨w.heap.size, 2, none⟩ = some (.int .i64 (last : Int)) by simp)
  have hlt := hb1.size
  clear hb0 hb1
  have hX : ⟨(Tide.cutB 47 s.data.toList).1.toArray⟩ = Tide.cutX 47 s := rfl
  have hY : ⟨(Tide.cutB 47 s.data.toList).2.1.toArray⟩ = Tide.cutY 47 s := rfl
  have hZ : (Tide.cutB 47 s.data.toList).2.2 = Tide.cutZ 47 s := rfl
  rw [hX, hY, hZ]
  clear hX hY hZ
  obtain ⟨t, HT⟩ : ∃ t, Hid (Tide.cutZ 47 s = t) := ⟨_, Lib.hid rfl⟩
  rw [HT.out]
  go_wp2_with fail
  go_quiet (fail)
  have hc3 : (w1.drewN nq).cell? ⟨w.heap.size, 1, none⟩ = some (.int .i64 (first : Int)) := hc1
  have hc4 : (w1.drewN nq).cell? ⟨w.heap.size, 2, none⟩ = some (.int .i64 (last : Int)) := hc2
  have HB2 := Lib.hid (below_drewN HB.out nq)
  have hlt2 : w.heap.size + 1 ≤ (w1.drewN nq).heap.size := by simpa using hlt
  clear hc1 hc2 HB hlt
  generalize w1.drewN nq = w2 at hc3 hc4 HB2 hlt2 ⊢
  go_upto_if 27 with (fail)
  go_cut [8, 9] (fun x y wx => ∃ lo hi : Int, x = .int .i64 lo ∧ y = .int .i64 hi ∧ Hid (Ends first last s lo hi) ∧ Hid (Below w2.heap.size w2 wx))
  case first =>
    by_cases hst : Tide.cutX 47 s = Tide.star
    · have HF := Lib.hid (show Ends first last s first last from ⟨if_pos hst, if_pos hst, by unfold Tide.itBad; rw [hst]; rfl, by omega, by omega, by omega, by omega⟩)
      rw [eq_star hst, Bool.not_true]
      clear hst
      go_wp2_with fail
      go_meet
      exact ⟨_, _, rfl, rfl, HF, Lib.hid (Below.refl _ _)⟩
    · rw [ne_star hst, Bool.not_false]
      have hx1 := Tide.cutX_size 45 (Tide.cutX 47 s); have hx2 := Tide.cutY_size 45 (Tide.cutX 47 s)
      have HX1 := Lib.hid (show (Tide.cutX 45 (Tide.cutX 47 s)).size ≤ 1000000 by have := HX.out; omega)
      have HX2 := Lib.hid (show (Tide.cutY 45 (Tide.cutX 47 s)).size ≤ 1000000 by have := HX.out; omega)
      have HST := Lib.hid hst
      clear hst hx1 hx2
      go_wp2_with fail
      refine (shlCut 45 (Tide.cutX 47 s) m _ HX.out ((HB2.out.cell (p := ⟨0, 0, none⟩) hmax).trans HM.out)).mono ?_
      rintro e w3 ⟨rfl, hb3⟩
      have HB3 := Lib.hid hb3
      clear hb3
      have hX : ⟨(Tide.cutB 45 (Tide.cutX 47 s).data.toList).1.toArray⟩ = Tide.cutX 45 (Tide.cutX 47 s) := rfl
      have hY : ⟨(Tide.cutB 45 (Tide.cutX 47 s).data.toList).2.1.toArray⟩ = Tide.cutY 45 (Tide.cutX 47 s) := rfl
      have hZ : (Tide.cutB 45 (Tide.cutX 47 s).data.toList).2.2 = Tide.cutZ 45 (Tide.cutX 47 s) := rfl
      rw [hX, hY, hZ]
      clear hX hY hZ
      go_wp2_with fail
      refine (cronNumber _ HX1.out _).mono ?_
      rintro e w4 ⟨rfl, rfl⟩
      cases hr : Tide.cutZ 45 (Tide.cutX 47 s) with
      | true =>
        go_wp2_with fail
        refine (cronNumber _ HX2.out _).mono ?_
        rintro e w4 ⟨rfl, rfl⟩
        have h1 := numL2 (Tide.cutX 45 (Tide.cutX 47 s)).data.toList; have h2 := numL2 (Tide.cutY 45 (Tide.cutX 47 s)).data.toList
        have HF := Lib.hid (show Ends first last s (Tide.numL 2 (Tide.cutX 45 (Tide.cutX 47 s)).data.toList) (Tide.numL 2 (Tide.cutY 45 (Tide.cutX 47 s)).data.toList) from ⟨if_neg HST.out, by unfold Tide.itHi; rw [if_neg HST.out, if_pos hr], by unfold Tide.itBad; rw [hr]; simp, h1.1, h1.2, h2.1, h2.2⟩)
        generalize Tide.numL 2 (Tide.cutX 45 (Tide.cutX 47 s)).data.toList = lo at HF h1 ⊢
        generalize Tide.numL 2 (Tide.cutY 45 (Tide.cutX 47 s)).data.toList = hi at HF h2 ⊢
        cases t with
        | true =>
          go_wp2_with fail
          go_meet
          exact ⟨_, _, rfl, rfl, HF, HB3⟩
        | false =>
          go_wp2_with fail
          go_meet
          exact ⟨_, _, rfl, rfl, HF, HB3⟩
      | false =>
        cases t with
        | true =>
          have HF := Lib.hid (show Tide.itemN (first : Int) (last : Int) s = [] from Tide.itemN_bad (by unfold Tide.itBad; rw [hr, HT.out]; simp [HST.out]))
          have HG := Lib.hid (HB2.out.trans (HB3.out.mono (by omega)))
          go_wp2_with fail
          go_ret
          exact ⟨by rw [HF.out]; rfl, HG.out⟩
        | false =>
          have h1 := numL2 (Tide.cutX 45 (Tide.cutX 47 s)).data.toList
          have HF := Lib.hid (show Ends first last s (Tide.numL 2 (Tide.cutX 45 (Tide.cutX 47 s)).data.toList) (Tide.numL 2 (Tide.cutX 45 (Tide.cutX 47 s)).data.toList) from ⟨if_neg HST.out, by unfold Tide.itHi; rw [if_neg HST.out, if_neg (by rw [hr]; simp)], by unfold Tide.itBad; rw [HT.out]; simp, h1.1, h1.2, h1.1, h1.2⟩)
          generalize Tide.numL 2 (Tide.cutX 45 (Tide.cutX 47 s)).data.toList = lo at HF h1 ⊢
          go_wp2_with fail
          go_meet
          exact ⟨_, _, rfl, rfl, HF, HB3⟩
  case rest =>
    obtain ⟨lo, hi, rfl, rfl, HE, HB3⟩ := hcut
    have HY := Lib.hid (show (Tide.cutY 47 s).size ≤ 1000000 by have := Tide.cutY_size 47 s; have := HS.out; omega)
    have hc1 := (HB3.out.cell (p := ⟨w.heap.size, 1, none⟩) (by show w.heap.size < _; omega)).trans hc3
    have hc2 := (HB3.out.cell (p := ⟨w.heap.size, 2, none⟩) (by show w.heap.size < _; omega)).trans hc4
    have HB := Lib.hid (HB2.out.trans (HB3.out.mono (by omega)))
    have b1 := HE.out.b1; have b2 := HE.out.b2; have b3 := HE.out.b3; have b4 := HE.out.b4
    clear hc3 hc4 HB2 HB3 hlt2
    go_upto_if 45 with (fail)
    go_cut [10] (fun x wy => ∃ ev : Int, x = .int .i64 ev ∧ Hid (Tide.itEv s = ev) ∧ -1 ≤ ev ∧ ev ≤ 100 ∧ wc = wy)
    case first =>
      cases t with
      | true =>
        have h1 := numL2 (Tide.cutY 47 s).data.toList
        have HF := Lib.hid (show Tide.itEv s = Tide.numL 2 (Tide.cutY 47 s).data.toList from if_pos HT.out)
        go_wp2_with fail
        refine (cronNumber _ HY.out _).mono ?_
        rintro e w4 ⟨rfl, rfl⟩
        generalize Tide.numL 2 (Tide.cutY 47 s).data.toList = ev at HF h1 ⊢
        go_wp2_with fail
        go_meet
        exact ⟨ev, rfl, HF, h1.1, h1.2, rfl⟩
      | false =>
        have HF := Lib.hid (show Tide.itEv s = 1 from if_neg (by rw [HT.out]; simp))
        go_wp2_with fail
        go_meet
        exact ⟨1, rfl, HF, by omega, by omega, rfl⟩
    case rest =>
      obtain ⟨ev, rfl, HV, e1, e2, rfl⟩ := hcut
      have HI := Lib.hid (Tide.itemN_else HE.out.bad HE.out.low HE.out.high HV.out)
      have HZ := Lib.hid (fun h => (HI.out.trans (Tide.spread_none h) : Tide.itemN (first : Int) (last : Int) s = []))
      by_cases a1 : lo < first
      · have HF := Lib.hid (HZ.out (.inl a1))
        go_wp2_with fail
        go_ret
        exact ⟨by rw [HF.out]; rfl, HB.out⟩
      by_cases a2 : (last : Int) < hi
      · have HF := Lib.hid (HZ.out (.inr (.inl a2)))
        have a3 : (first : Int) ≤ lo := by omega
        go_wp2_with fail
        go_ret
        exact ⟨by rw [HF.out]; rfl, HB.out⟩
      by_cases a3 : ev < 1
      · have HF := Lib.hid (HZ.out (.inr (.inr a3)))
        have a4 : (first : Int) ≤ lo := by omega
        have a5 : hi ≤ (last : Int) := by omega
        go_wp2_with fail
        go_ret
        exact ⟨by rw [HF.out]; rfl, HB.out⟩
      have a4 : (first : Int) ≤ lo := by omega
      have a5 : hi ≤ (last : Int) := by omega
      have a6 : 1 ≤ ev := by omega
      have HL := Lib.hid (HI.out.trans (Tide.spread_some a4 a5 a6))
      have HIn := Lib.hid (fun (n : Nat) (hn : n ∈ Tide.ticksF 100 lo hi ev) => (show n ≤ 60 by have := Tide.itemN_in (first := (first : Int)) (last := (last : Int)) (s := s) f0 n (by rw [HL.out]; exact hn); omega))
      have HR := Lib.hid (show ItemRun 100 (Tide.ticksF 100 lo hi ev) hi ev lo [] from ⟨rfl, by omega⟩)
      clear a1 a2 a3 HI HZ
      generalize Tide.ticksF 100 lo hi ev = L at HL HIn HR
      go_wp2_with fail
      go_loop [14, 15] (fun x y => ∃ (f : Nat) (n : Int) (D : List Nat), y = .int .i64 n ∧ x = .int .u64 (Tide.maskN D : Nat) ∧ 0 ≤ n ∧ f ≤ 100 ∧ Hid (ItemRun f L hi ev n D)) (fun x y => (61 - intOf y).toNat)
      case atStart => exact ⟨100, lo, [], rfl, rfl, by omega, by omega, HR⟩
      case round =>
        obtain ⟨f, n, D, rfl, rfl, n0, nf, HR1⟩ := hrel
        by_cases hlt : n ≤ hi
        · obtain ⟨k, rfl⟩ := Int.eq_ofNat_of_zero_le n0
          have hk : k ≤ 60 := by omega
          obtain ⟨g, hg, hn⟩ := HR1.out.more hlt a6
          have HN := Lib.hid hn
          have hD : ∀ x ∈ D, x ≤ 60 := fun x hx => HIn.out x (HR1.out.mem hx)
          have HO := Lib.hid (Tide.or_u64 _ _ (Tide.maskN_lt hD) (show 2 ^ k < 18446744073709551616 from Nat.lt_of_le_of_lt (Nat.pow_le_pow_right (by omega) hk) (by decide)))
          have HP := Lib.hid (pow_u64 (show k ≤ 62 by omega))
          clear hn hD HR1
          go_wp2_with fail
          go_round
          case rel =>
            refine ⟨g, (k : Int) + ev, D ++ [(k : Int).toNat], by go_num, ?_, by omega, by omega, HN⟩
            rw [HP.out, HO.out, Tide.maskN_snoc]; rfl
          case measure => simp [intOf]; omega
        · have HF := Lib.hid (show D = Tide.itemN (first : Int) (last : Int) s from by rw [HL.out]; exact HR1.out.done (by omega))
          go_wp2_with fail
          go_ret
          exact ⟨by rw [HF.out] <;> rfl, HB.out⟩
end Go.Proofs.YthelnkoohbnjpaaDoor
