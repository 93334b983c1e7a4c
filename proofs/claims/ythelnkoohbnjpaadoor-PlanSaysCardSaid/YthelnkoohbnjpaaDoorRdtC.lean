/- The contract of the reference's CronText. -/
import Derived.Test.YthelnkoohbnjpaaDoorPrtP
import Derived.Test.YthelnkoohbnjpaaDoorRdjC
import Derived.Test.YthelnkoohbnjpaaDoorRdrC
set_option linter.unusedVariables false
set_option linter.unusedSimpArgs false
namespace Tide
open Go
/-- all numbers from lo to v are in s -/
def fullUp (s lo v : Nat) : Bool := (List.range v).all (fun n => decide (n < lo) || s.testBit n)
theorem fullUp_lo (s lo : Nat) : fullUp s lo lo = true := by
  unfold fullUp
  rw [List.all_eq_true]
  intro n hn
  rw [decide_eq_true (List.mem_range.1 hn)]; rfl
theorem fullUp_next (s lo v : Nat) (h : lo ≤ v) : fullUp s lo (v + 1) = (fullUp s lo v && s.testBit v) := by
  unfold fullUp
  rw [List.range_succ, List.all_append, List.all_cons, List.all_nil, decide_eq_false (show ¬ v < lo by omega)]; simp
theorem fullUp_iff {s lo hi : Nat} (h : lo ≤ hi) (hin : ∀ n, s.testBit n = true → lo ≤ n ∧ n ≤ hi) : fullUp s lo (hi + 1) = decide (s = allN lo hi) := by
  rw [Bool.eq_iff_iff, decide_eq_true_eq]
  unfold fullUp
  rw [List.all_eq_true]
  constructor
  · intro h1
    apply Nat.eq_of_testBit_eq
    intro n
    rw [allN_bit lo hi n h]
    by_cases hn : lo ≤ n ∧ n ≤ hi
    · have := h1 n (List.mem_range.2 (by omega))
      rw [decide_eq_false (show ¬ n < lo by omega), Bool.false_or] at this
      rw [this, decide_eq_true hn.1, decide_eq_true hn.2]; rfl
    · cases hb : s.testBit n with
      | true => exact absurd (hin n hb) hn
      | false =>
        symm
        rw [Bool.and_eq_false_iff, decide_eq_false_iff_not, decide_eq_false_iff_not]
        omega
  · rintro rfl n hn
    have := List.mem_range.1 hn
    rw [allN_bit lo hi n h]
    by_cases h1 : n < lo
    · rw [decide_eq_true h1]; rfl
    · rw [decide_eq_true (show lo ≤ n by omega), decide_eq_true (show n ≤ hi by omega)]; simp
end Tide
namespace Go.Proofs.YthelnkoohbnjpaaDoor
open Go.RowKit
set_option linter.unusedVariables false
theorem ok_bits {c : Cr} (hf : c.fits) (h : c.err = 0) (k : Nat) (hk : k < 5) : ∀ n, (c.set k).testBit n = true → (Tide.lim k).1 ≤ n ∧ n ≤ (Tide.lim k).2 := by
  have hok : c.ok = true := by
    cases ho : c.ok with
    | true => rfl
    | false => rw [Cr.err_no ho] at h; cases h
  have h1 := Cr.ok_at hok k hk
  obtain ⟨b, hb⟩ : ∃ b, c.okAt k = Tide.okField (c.set k) (Tide.lim k).1 (Tide.lim k).2 b := by
    match k, hk with
    | 0, _ => exact ⟨_, rfl⟩
    | 1, _ => exact ⟨_, rfl⟩
    | 2, _ => exact ⟨_, rfl⟩
    | 3, _ => exact ⟨_, rfl⟩
    | 4, _ => exact ⟨_, rfl⟩
  rw [hb, Tide.okField_iff (c.set k) (c.set_fits hf k) _ _ (Tide.lim_le k).1 (by have := (Tide.lim_le k).2; omega)] at h1
  exact h1.2.1
/-- the texts of the first i fields are made -/
structure QR (c : Cr) (w wr : World) (a h d i : Nat) (x : Value) : Prop where
  below : Below w.heap.size w wr
  sets : Tide.At wr a 22 #[.int .u64 (c.mi : Int), .int .u64 (c.h : Int), .int .u64 (c.d : Int), .int .u64 (c.mo : Int), .int .u64 (c.wk : Int)]
  lims : Tide.At wr h 71 limV
  anys : Tide.At wr d 4 #[.bool false, .bool false, .bool c.ad, .bool false, .bool c.aw]
  parts : Tide.OwnRow (fun b => w.heap.size ≤ b) wr 9 1 x i ((c.txts i).map Value.string)
theorem QR.next {c : Cr} {w wr w' : World} {a h d i : Nat} {x : Value} (H : QR c w wr a h d i x) (hb : Below wr.heap.size wr w') : QR c w w' a h d i x :=
  ⟨H.below.trans (hb.mono H.below.size), H.sets.below hb H.sets.inside, H.lims.below hb H.lims.inside, H.anys.below hb H.anys.inside, H.parts.below hb (Nat.le_refl _)⟩
theorem QR.set {c : Cr} {w wr : World} {a h d i : Nat} {x : Value} (H : QR c w wr a h d i x) (hi : i < 5) : wr.cell? ⟨a, i, none⟩ = some (.int .u64 (c.set i : Int)) := by
  match i, hi with
  | 0, _ => exact H.sets.here rfl
  | 1, _ => exact H.sets.here rfl
  | 2, _ => exact H.sets.here rfl
  | 3, _ => exact H.sets.here rfl
  | 4, _ => exact H.sets.here rfl
theorem QR.app {c : Cr} {w wr w5 : World} {a h d i : Nat} {A : Option Addr} {cap b2 cap2 : Nat} (H : QR c w wr a h d i (.slice A i cap))
    (hown : w5.ownsRow 0 9 1 (.slice (some ⟨b2, 0, none⟩) (i + 1) cap2) (i + 1) ((c.txts i).map Value.string ++ [.string (c.txt i)]))
    (hg : (wr.alloc (.cells #[.string (c.txt i)] 9)).grownBy w5 (Value.slice A i cap).ownBlock)
    (ho : (Value.slice A i cap).ownBlock = some b2 ∨ b2 = wr.heap.size + 1) (hlt2 : b2 < w5.heap.size) :
    QR c w w5 a h d (i + 1) (.slice (some ⟨b2, 0, none⟩) (i + 1) cap2) := by
  have HS := H.next ((Below.refl _ _).alloc (Nat.le_refl _) (.cells #[.string (c.txt i)] 9))
  have a1 := HS.parts.apartAt HS.sets (by decide)
  have a2 := HS.parts.apartAt HS.lims (by decide)
  have a3 := HS.parts.apartAt HS.anys (by decide)
  obtain ⟨r1, r2⟩ := HS.parts.app hown hg (ho.imp id (fun e => e.trans (by simp))) hlt2
  refine ⟨HS.below.trans (r2.below HS.below.size (fun b hb h => by omega)), HS.sets.grown hg (fun e => a1 _ e rfl), HS.lims.grown hg (fun e => a2 _ e rfl), HS.anys.grown hg (fun e => a3 _ e rfl), ?_⟩
  rw [c.txts_next, List.map_append]
  exact r1.mono (fun b _ hb => by
    have := HS.below.size
    rcases hb with hb | hb
    · exact hb
    · omega)
/-- the items of a field ahead of v; W0 the world ahead of the field -/
def IR (W0 wr : World) (s lo hi v : Nat) (x : Value) : Prop := Below W0.heap.size W0 wr ∧ Tide.OwnRow (fun b => W0.heap.size ≤ b) wr 9 1 x (Tide.txtsUp s lo hi v).length ((Tide.txtsUp s lo hi v).map Value.string)
theorem IR.app {W0 wr w5 : World} {s lo hi v v' : Nat} {A : Option Addr} {cap b2 cap2 : Nat} {item : ByteArray} (H : IR W0 wr s lo hi v (.slice A (Tide.txtsUp s lo hi v).length cap))
    (e : Tide.txtsUp s lo hi v' = Tide.txtsUp s lo hi v ++ [item])
    (hown : w5.ownsRow 0 9 1 (.slice (some ⟨b2, 0, none⟩) ((Tide.txtsUp s lo hi v).length + 1) cap2) ((Tide.txtsUp s lo hi v).length + 1) ((Tide.txtsUp s lo hi v).map Value.string ++ [.string item]))
    (hg : (wr.alloc (.cells #[.string item] 9)).grownBy w5 (Value.slice A (Tide.txtsUp s lo hi v).length cap).ownBlock)
    (ho : (Value.slice A (Tide.txtsUp s lo hi v).length cap).ownBlock = some b2 ∨ b2 = wr.heap.size + 1) (hlt2 : b2 < w5.heap.size) :
    IR W0 w5 s lo hi v' (.slice (some ⟨b2, 0, none⟩) ((Tide.txtsUp s lo hi v).length + 1) cap2) := by
  have HO := H.2.alloc (.cells #[.string item] 9)
  have HB := H.1.alloc H.1.size (.cells #[.string item] 9)
  obtain ⟨r1, r2⟩ := HO.app hown hg (ho.imp id (fun e => e.trans (by simp))) hlt2
  refine ⟨HB.trans (r2.below HB.size (fun b hb h => by omega)), ?_⟩
  rw [e, List.length_append, List.map_append]
  exact r1.mono (fun b _ hb => by
    have := HB.size
    rcases hb with hb | hb
    · exact hb
    · omega)
set_option maxRecDepth 100000 in
set_option maxHeartbeats 3200000 in
theorem refCronText (c : Cr) (hf : c.fits) (he : c.err = 0) (w : World) : Calls Tryd.prog 12 #[.agg c.cells] w fun e w' => e = .returned (.string c.text) ∧ Below w.heap.size w w' := by
  have hB := Tide.At.made w 24 c.cells
  have hb := (Below.refl w.heap.size w).alloc (Nat.le_refl _) (.cells c.cells 24)
  have HB := Lib.hid hB; have HBl := Lib.hid hb
  have HF := Lib.hid hf; have HE := Lib.hid he
  obtain ⟨it, hit, hz0, hz1, hz2⟩ := info_split info_text
  clear hB hb hf he
  go_enter Tryd.func12, Tryd.ntmps12
  go_upto_region 1 with fail
  generalize w.alloc (.cells c.cells 24) = W at HB HBl ⊢
  have x0 := HB.out.here (i := 0) (c.set_cell 0 (by decide)); have x1 := HB.out.here (i := 1) (c.set_cell 1 (by decide)); have x2 := HB.out.here (i := 2) (c.set_cell 2 (by decide)); have x3 := HB.out.here (i := 3) (c.set_cell 3 (by decide)); have x4 := HB.out.here (i := 4) (c.set_cell 4 (by decide))
  have x5 : W.cell? ⟨w.heap.size, 5, none⟩ = some (.bool c.ad) := HB.out.here rfl
  have x6 : W.cell? ⟨w.heap.size, 6, none⟩ = some (.bool c.aw) := HB.out.here rfl
  go_wp2_with fail
  refine (refSets c _).mono ?_
  rintro e w1 ⟨a, h, d, rfl, hA1, hA2, hA3, hb1⟩
  have HQ := Lib.hid (show QR c w w1 a h d 0 (.slice none 0 0) from ⟨HBl.out.trans (hb1.mono HBl.out.size), hA1, hA2, hA3, Tide.OwnRow.nil _ _ _ _⟩)
  clear x0 x1 x2 x3 x4 x5 x6 hA1 hA2 hA3 hb1 HB HBl
  go_wp2_with fail
  go_loopw [6, 7] (fun x y wr => ∃ i : Nat, i ≤ 5 ∧ y = .int .i64 i ∧ Hid (QR c w wr a h d i x)) (fun _ y _ => 5 - (intOf y).toNat)
  case atStart => exact ⟨0, by omega, rfl, HQ⟩
  case round =>
    clear HQ
    obtain ⟨i, hi, rfl, HQ⟩ := hrel
    have i0 : (0 : Int) ≤ (i : Int) := by omega
    obtain ⟨A, cap, rfl, hcA, hcB, _⟩ := HQ.out.parts.slice
    by_cases hlt : i < 5
    · have i1 : (i : Int) < 5 := by omega
      have HLt := Lib.hid hlt
      obtain ⟨y1, y2⟩ := lim_at HQ.out.lims i hlt
      have y3 := HQ.out.set hlt
      have HT := Lib.hid (show c.txt i = Tide.fieldTxt (c.set i) (Tide.lim i).1 (Tide.lim i).2 (c.anyAt i) from rfl)
      have HW := Lib.hid (c.set_fits HF.out i)
      have HBits := Lib.hid (ok_bits HF.out HE.out i hlt)
      have l1 := (Tide.lim_le i).1; have l2 := (Tide.lim_le i).2
      generalize (Tide.lim i).1 = lo at *
      generalize (Tide.lim i).2 = hi at *
      generalize c.set i = s at *
      clear hlt
      have HI0 := Lib.hid (show IR wr wr s lo hi lo (.slice none 0 0) from ⟨Below.refl _ _, by rw [Tide.txtsUp_lo]; exact Tide.OwnRow.nil _ _ _ _⟩)
      have ha0 := HQ.out.sets.inside; have hh0 := HQ.out.lims.inside
      generalize wr = W0 at *
      go_wp2_with fail
      go_loopw [8, 9, 10] (fun x f y wr => ∃ v : Nat, y = .int .i64 (v : Int) ∧ lo ≤ v ∧ v ≤ hi + 1 ∧ f = .bool (Tide.fullUp s lo v) ∧ Hid (IR W0 wr s lo hi v x)) (fun _ _ y _ => hi + 2 - (intOf y).toNat)
      case atStart => exact ⟨lo, rfl, Nat.le_refl _, by omega, by rw [Tide.fullUp_lo], HI0⟩
      case round =>
        clear HI0
        obtain ⟨v, rfl, v1, v2, rfl, HI⟩ := hrel
        have z1 := (HI.out.1.cell (p := ⟨h, i * 2, none⟩) hh0).trans y1
        have z2 := (HI.out.1.cell (p := ⟨h, i * 2 + 1, none⟩) hh0).trans y2
        have z3 := (HI.out.1.cell (p := ⟨a, i, none⟩) ha0).trans y3
        obtain ⟨A8, cap8, rfl, hc8, hc82, _⟩ := HI.out.2.slice
        have htl := Tide.txtsUp_len s lo hi v
        have HM3 := Lib.hid (show (Tide.txtsUp s lo hi v).length + 1 ≤ maxLen by simp only [maxLen]; omega)
        have HM4 := Lib.hid (show ((Tide.txtsUp s lo hi v).length + 1) * 16 ≤ 140737488355328 by omega)
        have v0 : (0 : Int) ≤ (v : Int) := by omega
        have l0 : (0 : Int) ≤ (lo : Int) := by omega
        have hi60 : (hi : Int) ≤ 60 := by omega
        have v60 : (v : Int) ≤ 61 := by omega
        have FY := Lib.hid (Tide.fullUp_next s lo v v1)
        by_cases hvh : v ≤ hi
        · have v3 : (v : Int) ≤ (hi : Int) := by omega
          go_wp2_with fail
          refine (refHas s (v : Int) _ HW.out).mono ?_
          rintro ee w4 ⟨rfl, rfl⟩
          rw [hasB_nat s v (by omega)]
          cases hb : s.testBit v with
          | false =>
            have HN := Lib.hid (show IR W0 wr s lo hi (v + 1) (.slice A8 (Tide.txtsUp s lo hi v).length cap8) from ⟨HI.out.1, by rw [Tide.txtsUp_no (by unfold Tide.begins; rw [hb]; simp)]; exact HI.out.2⟩)
            rw [hb, Bool.and_false] at FY
            clear HI hb
            go_wp2_with fail
            go_roundw
            case rel => exact ⟨v + 1, by go_num, by omega, by omega, by rw [FY.out], HN⟩
            case measure => simp [intOf]; omega
          | true =>
            rw [hb, Bool.and_true] at FY
            by_cases hvl : v = lo
            · have HBg := Lib.hid (show Tide.begins s lo v = true by unfold Tide.begins; rw [hb, decide_eq_true hvl]; rfl)
              have v4 : (v : Int) ≤ (lo : Int) := by omega
              clear hb hvl
              have HR0 := Lib.hid (show ∃ f, Tide.runEnd s hi f v = Tide.runEnd s hi 64 v ∧ hi - v ≤ f from ⟨64, rfl, by omega⟩)
              go_wp2_with fail
              go_loop [11] (fun y => ∃ e : Nat, y = .int .i64 (e : Int) ∧ v ≤ e ∧ e ≤ hi ∧ Hid (∃ f, Tide.runEnd s hi f e = Tide.runEnd s hi 64 v ∧ hi - e ≤ f)) (fun y => hi + 1 - (intOf y).toNat)
              case atStart => exact ⟨v, rfl, Nat.le_refl _, by omega, HR0⟩
              case round =>
                clear HR0
                obtain ⟨e, rfl, e1, e2, HRn⟩ := hrel
                have e0 : (0 : Int) ≤ (e : Int) := by omega
                have e60 : (e : Int) ≤ 60 := by omega
                by_cases hgo : e < hi
                · have g1 : (e : Int) < (hi : Int) := by omega
                  go_wp2_with fail
                  refine (refHas s ((e : Int) + 1) _ HW.out).mono ?_
                  rintro ee w4 ⟨rfl, rfl⟩
                  rw [show ((e : Int) + 1) = ((e + 1 : Nat) : Int) from rfl, hasB_nat s (e + 1) (by omega)]
                  cases hbe : s.testBit (e + 1) with
                  | true =>
                    have HRx := Lib.hid (show ∃ f, Tide.runEnd s hi f (e + 1) = Tide.runEnd s hi 64 v ∧ hi - (e + 1) ≤ f from by
                      obtain ⟨f, q1, q2⟩ := HRn.out
                      obtain ⟨gg, rfl, q3⟩ := Tide.runEnd_go q2 hgo hbe
                      exact ⟨gg, by rw [← q3]; exact q1, by omega⟩)
                    have HGo := Lib.hid hgo
                    clear HRn hbe hgo
                    go_wp2_with fail
                    go_round
                    case rel => exact ⟨e + 1, by go_num, by omega, by have := HGo.out; omega, HRx⟩
                    case measure => have := HGo.out; simp [intOf]; omega
                  | false =>
                    have HEnd := Lib.hid (show Tide.runEnd s hi 64 v = e from by
                      obtain ⟨f, q1, q2⟩ := HRn.out
                      rw [← q1]; exact Tide.runEnd_stop (fun ⟨_, q⟩ => by rw [hbe] at q; cases q))
                    clear hbe hgo
                    by_cases hev : e = v
                    · have NY := Lib.hid (show Tide.txtsUp s lo hi (v + 1) = Tide.txtsUp s lo hi v ++ [Tide.decB v] by rw [Tide.txtsUp_yes v1 HBg.out, HEnd.out, hev, Tide.runTxt_one])
                      subst hev
                      clear HRn
                      go_wp2_with fail
                      refine (itoaC e (by omega) _).mono ?_
                      rintro ee w4 ⟨rfl, rfl⟩
                      have HOx := Lib.hid (HI.out.2.alloc (.cells #[.string (Tide.decB e)] 9))
                      go_wp2_with (at_builtin; go_loud (refine wpList_append_lies _ (by rfl) (.tmp 89) (.tmp 91) 53 (by rfl) 0 9 it (.string ByteArray.empty) 1 16 Tryd.underlying53 hit hz0 hz1 hz2 rfl (by decide) (.slice A8 (Tide.txtsUp s lo hi e).length cap8) _ _ rfl HOx.out.owns ⟨wr.heap.size, 0, none⟩ 1 1 [.string (Tide.decB e)] rfl rfl (Tide.new_one rfl) (by simp [Value.oneCell']) (by decide) HM3.out HM4.out (Nat.zero_le _) _ rfl ?_))
                      intro b2 cap2 w5 hown hg ho hlt2
                      have HN := Lib.hid (IR.app HI.out NY.out hown hg ho hlt2)
                      have hlen : (Tide.txtsUp s lo hi (e + 1)).length = (Tide.txtsUp s lo hi e).length + 1 := by rw [NY.out, List.length_append]; rfl
                      clear hown hg ho hlt2 HOx HI
                      go_wp2_with fail
                      go_roundw
                      case rel => exact ⟨e + 1, by go_num, by omega, by omega, by rw [FY.out], HN⟩
                      case measure => simp [intOf]; omega
                    · have NY := Lib.hid (show Tide.txtsUp s lo hi (v + 1) = Tide.txtsUp s lo hi v ++ [Tide.decB v ++ (⟨#[45]⟩ ++ Tide.decB e)] by rw [Tide.txtsUp_yes v1 HBg.out, HEnd.out, Tide.runTxt_two hev, ByteArray.append_assoc])
                      have hev2 : (v : Int) < (e : Int) := by omega
                      have sz1 := Tide.decB_size (show v < 100 by omega)
                      have sz2 := Tide.decB_size (show e < 100 by omega)
                      have hone : (⟨#[45]⟩ : ByteArray).size = 1 := rfl
                      have hs1 : (⟨#[45]⟩ : ByteArray).size + (Tide.decB e).size ≤ 9223372036854775807 := by omega
                      have hs2 : (Tide.decB v).size + (⟨#[45]⟩ ++ Tide.decB e).size ≤ 9223372036854775807 := by rw [ByteArray.size_append]; omega
                      clear hev HRn
                      go_wp2_with fail
                      refine (itoaC v (by omega) _).mono ?_
                      rintro ee w4 ⟨rfl, rfl⟩
                      go_wp2_with fail
                      refine (itoaC e (by omega) _).mono ?_
                      rintro ee w4 ⟨rfl, rfl⟩
                      have HOx := Lib.hid (HI.out.2.alloc (.cells #[.string (Tide.decB v ++ (⟨#[45]⟩ ++ Tide.decB e))] 9))
                      go_wp2_with (at_builtin; go_loud (refine wpList_append_lies _ (by rfl) (.tmp 89) (.tmp 91) 53 (by rfl) 0 9 it (.string ByteArray.empty) 1 16 Tryd.underlying53 hit hz0 hz1 hz2 rfl (by decide) (.slice A8 (Tide.txtsUp s lo hi v).length cap8) _ _ rfl HOx.out.owns ⟨wr.heap.size, 0, none⟩ 1 1 [.string (Tide.decB v ++ (⟨#[45]⟩ ++ Tide.decB e))] rfl rfl (Tide.new_one rfl) (by simp [Value.oneCell']) (by decide) HM3.out HM4.out (Nat.zero_le _) _ rfl ?_))
                      intro b2 cap2 w5 hown hg ho hlt2
                      have HN := Lib.hid (IR.app HI.out NY.out hown hg ho hlt2)
                      have hlen : (Tide.txtsUp s lo hi (v + 1)).length = (Tide.txtsUp s lo hi v).length + 1 := by rw [NY.out, List.length_append]; rfl
                      clear hown hg ho hlt2 HOx HI
                      go_wp2_with fail
                      go_roundw
                      case rel => exact ⟨v + 1, by go_num, by omega, by omega, by rw [FY.out], HN⟩
                      case measure => simp [intOf]; omega
                · have g1 : (hi : Int) ≤ (e : Int) := by omega
                  have HEnd := Lib.hid (show Tide.runEnd s hi 64 v = e from by
                    obtain ⟨f, q1, q2⟩ := HRn.out
                    rw [← q1]; exact Tide.runEnd_stop (fun ⟨q, _⟩ => hgo q))
                  clear hgo
                  by_cases hev : e = v
                  · have NY := Lib.hid (show Tide.txtsUp s lo hi (v + 1) = Tide.txtsUp s lo hi v ++ [Tide.decB v] by rw [Tide.txtsUp_yes v1 HBg.out, HEnd.out, hev, Tide.runTxt_one])
                    subst hev
                    clear HRn
                    go_wp2_with fail
                    refine (itoaC e (by omega) _).mono ?_
                    rintro ee w4 ⟨rfl, rfl⟩
                    have HOx := Lib.hid (HI.out.2.alloc (.cells #[.string (Tide.decB e)] 9))
                    go_wp2_with (at_builtin; go_loud (refine wpList_append_lies _ (by rfl) (.tmp 89) (.tmp 91) 53 (by rfl) 0 9 it (.string ByteArray.empty) 1 16 Tryd.underlying53 hit hz0 hz1 hz2 rfl (by decide) (.slice A8 (Tide.txtsUp s lo hi e).length cap8) _ _ rfl HOx.out.owns ⟨wr.heap.size, 0, none⟩ 1 1 [.string (Tide.decB e)] rfl rfl (Tide.new_one rfl) (by simp [Value.oneCell']) (by decide) HM3.out HM4.out (Nat.zero_le _) _ rfl ?_))
                    intro b2 cap2 w5 hown hg ho hlt2
                    have HN := Lib.hid (IR.app HI.out NY.out hown hg ho hlt2)
                    have hlen : (Tide.txtsUp s lo hi (e + 1)).length = (Tide.txtsUp s lo hi e).length + 1 := by rw [NY.out, List.length_append]; rfl
                    clear hown hg ho hlt2 HOx HI
                    go_wp2_with fail
                    go_roundw
                    case rel => exact ⟨e + 1, by go_num, by omega, by omega, by rw [FY.out], HN⟩
                    case measure => simp [intOf]; omega
                  · have NY := Lib.hid (show Tide.txtsUp s lo hi (v + 1) = Tide.txtsUp s lo hi v ++ [Tide.decB v ++ (⟨#[45]⟩ ++ Tide.decB e)] by rw [Tide.txtsUp_yes v1 HBg.out, HEnd.out, Tide.runTxt_two hev, ByteArray.append_assoc])
                    have hev2 : (v : Int) < (e : Int) := by omega
                    have sz1 := Tide.decB_size (show v < 100 by omega)
                    have sz2 := Tide.decB_size (show e < 100 by omega)
                    have hone : (⟨#[45]⟩ : ByteArray).size = 1 := rfl
                    have hs1 : (⟨#[45]⟩ : ByteArray).size + (Tide.decB e).size ≤ 9223372036854775807 := by omega
                    have hs2 : (Tide.decB v).size + (⟨#[45]⟩ ++ Tide.decB e).size ≤ 9223372036854775807 := by rw [ByteArray.size_append]; omega
                    clear hev HRn
                    go_wp2_with fail
                    refine (itoaC v (by omega) _).mono ?_
                    rintro ee w4 ⟨rfl, rfl⟩
                    go_wp2_with fail
                    refine (itoaC e (by omega) _).mono ?_
                    rintro ee w4 ⟨rfl, rfl⟩
                    have HOx := Lib.hid (HI.out.2.alloc (.cells #[.string (Tide.decB v ++ (⟨#[45]⟩ ++ Tide.decB e))] 9))
                    go_wp2_with (at_builtin; go_loud (refine wpList_append_lies _ (by rfl) (.tmp 89) (.tmp 91) 53 (by rfl) 0 9 it (.string ByteArray.empty) 1 16 Tryd.underlying53 hit hz0 hz1 hz2 rfl (by decide) (.slice A8 (Tide.txtsUp s lo hi v).length cap8) _ _ rfl HOx.out.owns ⟨wr.heap.size, 0, none⟩ 1 1 [.string (Tide.decB v ++ (⟨#[45]⟩ ++ Tide.decB e))] rfl rfl (Tide.new_one rfl) (by simp [Value.oneCell']) (by decide) HM3.out HM4.out (Nat.zero_le _) _ rfl ?_))
                    intro b2 cap2 w5 hown hg ho hlt2
                    have HN := Lib.hid (IR.app HI.out NY.out hown hg ho hlt2)
                    have hlen : (Tide.txtsUp s lo hi (v + 1)).length = (Tide.txtsUp s lo hi v).length + 1 := by rw [NY.out, List.length_append]; rfl
                    clear hown hg ho hlt2 HOx HI
                    go_wp2_with fail
                    go_roundw
                    case rel => exact ⟨v + 1, by go_num, by omega, by omega, by rw [FY.out], HN⟩
                    case measure => simp [intOf]; omega
            · have v4 : (lo : Int) < (v : Int) := by omega
              go_wp2_with fail
              refine (refHas s ((v : Int) - 1) _ HW.out).mono ?_
              rintro ee w4 ⟨rfl, rfl⟩
              rw [show ((v : Int) - 1) = ((v - 1 : Nat) : Int) by omega, hasB_nat s (v - 1) (by omega)]
              cases hb1 : s.testBit (v - 1) with
              | true =>
                have HN := Lib.hid (show IR W0 wr s lo hi (v + 1) (.slice A8 (Tide.txtsUp s lo hi v).length cap8) from ⟨HI.out.1, by rw [Tide.txtsUp_no (by unfold Tide.begins; rw [hb1, decide_eq_false hvl]; simp)]; exact HI.out.2⟩)
                clear HI hb hb1 hvl
                go_wp2_with fail
                go_roundw
                case rel => exact ⟨v + 1, by go_num, by omega, by omega, by rw [FY.out], HN⟩
                case measure => simp [intOf]; omega
              | false =>
                have HBg := Lib.hid (show Tide.begins s lo v = true by unfold Tide.begins; rw [hb, hb1]; simp)
                clear hb hb1 hvl
                have HR0 := Lib.hid (show ∃ f, Tide.runEnd s hi f v = Tide.runEnd s hi 64 v ∧ hi - v ≤ f from ⟨64, rfl, by omega⟩)
                go_wp2_with fail
                go_loop [11] (fun y => ∃ e : Nat, y = .int .i64 (e : Int) ∧ v ≤ e ∧ e ≤ hi ∧ Hid (∃ f, Tide.runEnd s hi f e = Tide.runEnd s hi 64 v ∧ hi - e ≤ f)) (fun y => hi + 1 - (intOf y).toNat)
                case atStart => exact ⟨v, rfl, Nat.le_refl _, by omega, HR0⟩
                case round =>
                  clear HR0
                  obtain ⟨e, rfl, e1, e2, HRn⟩ := hrel
                  have e0 : (0 : Int) ≤ (e : Int) := by omega
                  have e60 : (e : Int) ≤ 60 := by omega
                  by_cases hgo : e < hi
                  · have g1 : (e : Int) < (hi : Int) := by omega
                    go_wp2_with fail
                    refine (refHas s ((e : Int) + 1) _ HW.out).mono ?_
                    rintro ee w4 ⟨rfl, rfl⟩
                    rw [show ((e : Int) + 1) = ((e + 1 : Nat) : Int) from rfl, hasB_nat s (e + 1) (by omega)]
                    cases hbe : s.testBit (e + 1) with
                    | true =>
                      have HRx := Lib.hid (show ∃ f, Tide.runEnd s hi f (e + 1) = Tide.runEnd s hi 64 v ∧ hi - (e + 1) ≤ f from by
                        obtain ⟨f, q1, q2⟩ := HRn.out
                        obtain ⟨gg, rfl, q3⟩ := Tide.runEnd_go q2 hgo hbe
                        exact ⟨gg, by rw [← q3]; exact q1, by omega⟩)
                      have HGo := Lib.hid hgo
                      clear HRn hbe hgo
                      go_wp2_with fail
                      go_round
                      case rel => exact ⟨e + 1, by go_num, by omega, by have := HGo.out; omega, HRx⟩
                      case measure => have := HGo.out; simp [intOf]; omega
                    | false =>
                      have HEnd := Lib.hid (show Tide.runEnd s hi 64 v = e from by
                        obtain ⟨f, q1, q2⟩ := HRn.out
                        rw [← q1]; exact Tide.runEnd_stop (fun ⟨_, q⟩ => by rw [hbe] at q; cases q))
                      clear hbe hgo
                      by_cases hev : e = v
                      · have NY := Lib.hid (show Tide.txtsUp s lo hi (v + 1) = Tide.txtsUp s lo hi v ++ [Tide.decB v] by rw [Tide.txtsUp_yes v1 HBg.out, HEnd.out, hev, Tide.runTxt_one])
                        subst hev
                        clear HRn
                        go_wp2_with fail
                        refine (itoaC e (by omega) _).mono ?_
                        rintro ee w4 ⟨rfl, rfl⟩
                        have HOx := Lib.hid (HI.out.2.alloc (.cells #[.string (Tide.decB e)] 9))
                        go_wp2_with (at_builtin; go_loud (refine wpList_append_lies _ (by rfl) (.tmp 89) (.tmp 91) 53 (by rfl) 0 9 it (.string ByteArray.empty) 1 16 Tryd.underlying53 hit hz0 hz1 hz2 rfl (by decide) (.slice A8 (Tide.txtsUp s lo hi e).length cap8) _ _ rfl HOx.out.owns ⟨wr.heap.size, 0, none⟩ 1 1 [.string (Tide.decB e)] rfl rfl (Tide.new_one rfl) (by simp [Value.oneCell']) (by decide) HM3.out HM4.out (Nat.zero_le _) _ rfl ?_))
                        intro b2 cap2 w5 hown hg ho hlt2
                        have HN := Lib.hid (IR.app HI.out NY.out hown hg ho hlt2)
                        have hlen : (Tide.txtsUp s lo hi (e + 1)).length = (Tide.txtsUp s lo hi e).length + 1 := by rw [NY.out, List.length_append]; rfl
                        clear hown hg ho hlt2 HOx HI
                        go_wp2_with fail
                        go_roundw
                        case rel => exact ⟨e + 1, by go_num, by omega, by omega, by rw [FY.out], HN⟩
                        case measure => simp [intOf]; omega
                      · have NY := Lib.hid (show Tide.txtsUp s lo hi (v + 1) = Tide.txtsUp s lo hi v ++ [Tide.decB v ++ (⟨#[45]⟩ ++ Tide.decB e)] by rw [Tide.txtsUp_yes v1 HBg.out, HEnd.out, Tide.runTxt_two hev, ByteArray.append_assoc])
                        have hev2 : (v : Int) < (e : Int) := by omega
                        have sz1 := Tide.decB_size (show v < 100 by omega)
                        have sz2 := Tide.decB_size (show e < 100 by omega)
                        have hone : (⟨#[45]⟩ : ByteArray).size = 1 := rfl
                        have hs1 : (⟨#[45]⟩ : ByteArray).size + (Tide.decB e).size ≤ 9223372036854775807 := by omega
                        have hs2 : (Tide.decB v).size + (⟨#[45]⟩ ++ Tide.decB e).size ≤ 9223372036854775807 := by rw [ByteArray.size_append]; omega
                        clear hev HRn
                        go_wp2_with fail
                        refine (itoaC v (by omega) _).mono ?_
                        rintro ee w4 ⟨rfl, rfl⟩
                        go_wp2_with fail
                        refine (itoaC e (by omega) _).mono ?_
                        rintro ee w4 ⟨rfl, rfl⟩
                        have HOx := Lib.hid (HI.out.2.alloc (.cells #[.string (Tide.decB v ++ (⟨#[45]⟩ ++ Tide.decB e))] 9))
                        go_wp2_with (at_builtin; go_loud (refine wpList_append_lies _ (by rfl) (.tmp 89) (.tmp 91) 53 (by rfl) 0 9 it (.string ByteArray.empty) 1 16 Tryd.underlying53 hit hz0 hz1 hz2 rfl (by decide) (.slice A8 (Tide.txtsUp s lo hi v).length cap8) _ _ rfl HOx.out.owns ⟨wr.heap.size, 0, none⟩ 1 1 [.string (Tide.decB v ++ (⟨#[45]⟩ ++ Tide.decB e))] rfl rfl (Tide.new_one rfl) (by simp [Value.oneCell']) (by decide) HM3.out HM4.out (Nat.zero_le _) _ rfl ?_))
                        intro b2 cap2 w5 hown hg ho hlt2
                        have HN := Lib.hid (IR.app HI.out NY.out hown hg ho hlt2)
                        have hlen : (Tide.txtsUp s lo hi (v + 1)).length = (Tide.txtsUp s lo hi v).length + 1 := by rw [NY.out, List.length_append]; rfl
                        clear hown hg ho hlt2 HOx HI
                        go_wp2_with fail
                        go_roundw
                        case rel => exact ⟨v + 1, by go_num, by omega, by omega, by rw [FY.out], HN⟩
                        case measure => simp [intOf]; omega
                  · have g1 : (hi : Int) ≤ (e : Int) := by omega
                    have HEnd := Lib.hid (show Tide.runEnd s hi 64 v = e from by
                      obtain ⟨f, q1, q2⟩ := HRn.out
                      rw [← q1]; exact Tide.runEnd_stop (fun ⟨q, _⟩ => hgo q))
                    clear hgo
                    by_cases hev : e = v
                    · have NY := Lib.hid (show Tide.txtsUp s lo hi (v + 1) = Tide.txtsUp s lo hi v ++ [Tide.decB v] by rw [Tide.txtsUp_yes v1 HBg.out, HEnd.out, hev, Tide.runTxt_one])
                      subst hev
                      clear HRn
                      go_wp2_with fail
                      refine (itoaC e (by omega) _).mono ?_
                      rintro ee w4 ⟨rfl, rfl⟩
                      have HOx := Lib.hid (HI.out.2.alloc (.cells #[.string (Tide.decB e)] 9))
                      go_wp2_with (at_builtin; go_loud (refine wpList_append_lies _ (by rfl) (.tmp 89) (.tmp 91) 53 (by rfl) 0 9 it (.string ByteArray.empty) 1 16 Tryd.underlying53 hit hz0 hz1 hz2 rfl (by decide) (.slice A8 (Tide.txtsUp s lo hi e).length cap8) _ _ rfl HOx.out.owns ⟨wr.heap.size, 0, none⟩ 1 1 [.string (Tide.decB e)] rfl rfl (Tide.new_one rfl) (by simp [Value.oneCell']) (by decide) HM3.out HM4.out (Nat.zero_le _) _ rfl ?_))
                      intro b2 cap2 w5 hown hg ho hlt2
                      have HN := Lib.hid (IR.app HI.out NY.out hown hg ho hlt2)
                      have hlen : (Tide.txtsUp s lo hi (e + 1)).length = (Tide.txtsUp s lo hi e).length + 1 := by rw [NY.out, List.length_append]; rfl
                      clear hown hg ho hlt2 HOx HI
                      go_wp2_with fail
                      go_roundw
                      case rel => exact ⟨e + 1, by go_num, by omega, by omega, by rw [FY.out], HN⟩
                      case measure => simp [intOf]; omega
                    · have NY := Lib.hid (show Tide.txtsUp s lo hi (v + 1) = Tide.txtsUp s lo hi v ++ [Tide.decB v ++ (⟨#[45]⟩ ++ Tide.decB e)] by rw [Tide.txtsUp_yes v1 HBg.out, HEnd.out, Tide.runTxt_two hev, ByteArray.append_assoc])
                      have hev2 : (v : Int) < (e : Int) := by omega
                      have sz1 := Tide.decB_size (show v < 100 by omega)
                      have sz2 := Tide.decB_size (show e < 100 by omega)
                      have hone : (⟨#[45]⟩ : ByteArray).size = 1 := rfl
                      have hs1 : (⟨#[45]⟩ : ByteArray).size + (Tide.decB e).size ≤ 9223372036854775807 := by omega
                      have hs2 : (Tide.decB v).size + (⟨#[45]⟩ ++ Tide.decB e).size ≤ 9223372036854775807 := by rw [ByteArray.size_append]; omega
                      clear hev HRn
                      go_wp2_with fail
                      refine (itoaC v (by omega) _).mono ?_
                      rintro ee w4 ⟨rfl, rfl⟩
                      go_wp2_with fail
                      refine (itoaC e (by omega) _).mono ?_
                      rintro ee w4 ⟨rfl, rfl⟩
                      have HOx := Lib.hid (HI.out.2.alloc (.cells #[.string (Tide.decB v ++ (⟨#[45]⟩ ++ Tide.decB e))] 9))
                      go_wp2_with (at_builtin; go_loud (refine wpList_append_lies _ (by rfl) (.tmp 89) (.tmp 91) 53 (by rfl) 0 9 it (.string ByteArray.empty) 1 16 Tryd.underlying53 hit hz0 hz1 hz2 rfl (by decide) (.slice A8 (Tide.txtsUp s lo hi v).length cap8) _ _ rfl HOx.out.owns ⟨wr.heap.size, 0, none⟩ 1 1 [.string (Tide.decB v ++ (⟨#[45]⟩ ++ Tide.decB e))] rfl rfl (Tide.new_one rfl) (by simp [Value.oneCell']) (by decide) HM3.out HM4.out (Nat.zero_le _) _ rfl ?_))
                      intro b2 cap2 w5 hown hg ho hlt2
                      have HN := Lib.hid (IR.app HI.out NY.out hown hg ho hlt2)
                      have hlen : (Tide.txtsUp s lo hi (v + 1)).length = (Tide.txtsUp s lo hi v).length + 1 := by rw [NY.out, List.length_append]; rfl
                      clear hown hg ho hlt2 HOx HI
                      go_wp2_with fail
                      go_roundw
                      case rel => exact ⟨v + 1, by go_num, by omega, by omega, by rw [FY.out], HN⟩
                      case measure => simp [intOf]; omega
        · have hve : v = hi + 1 := by omega
          subst hve
          have v3 : (hi : Int) < ((hi + 1 : Nat) : Int) := by omega
          have HD := Lib.hid (Tide.txtsUp_size (s := s) (lo := lo) (v := hi + 1) (Nat.le_refl _) (show hi < 99 by omega))
          have HPt := Lib.hid (HQ.out.next HI.out.1)
          have htl2 : (Tide.txtsUp s lo hi (hi + 1)).length ≤ 1000 := by omega
          have HMa := Lib.hid (show i + 1 ≤ maxLen by simp only [maxLen]; omega)
          have HMb := Lib.hid (show (i + 1) * 16 ≤ 140737488355328 by omega)
          have HRow := Lib.hid (show 0 < (Tide.txtsUp s lo hi (hi + 1)).length → ∃ b, A8 = some ⟨b, 0, none⟩ ∧ ∀ j x, (Tide.txtsUp s lo hi (hi + 1))[j]? = some x → wr.cell? ⟨b, j, none⟩ = some (.string x) from fun hp => by
            obtain ⟨b, cc, e, _, _, _, hr⟩ := HI.out.2.form hp
            cases e
            exact ⟨b, rfl, fun j x hx => hr.cell (by rw [List.getElem?_map, hx]; rfl)⟩)
          rw [Tide.fullUp_iff l1 HBits.out]
          have HTx := HT.out
          unfold Tide.fieldTxt at HTx
          clear FY HM3 HM4 HI y1 y2 y3 htl
          obtain ⟨F, HFu⟩ : ∃ F, Hid (decide (s = Tide.allN lo hi) = F) := ⟨_, Lib.hid rfl⟩
          rw [HFu.out]
          go_upto_region 21 with fail
          clear z1 z2 z3
          have HTz := Lib.hid HTx
          clear HTx
          go_cut [107] (fun x wy => x = .bool (F && c.anyAt i) ∧ wr = wy)
          case first =>
            cases F with
            | false =>
              go_wp2_with fail
              go_meet
              exact ⟨rfl, rfl⟩
            | true =>
              by_cases i2 : i = 2
              · subst i2
                have hcell : wr.cell? ⟨d, 2, none⟩ = some (.bool c.ad) := HPt.out.anys.here rfl
                go_wp2_with fail
                go_meet
                exact ⟨rfl, rfl⟩
              · by_cases i4 : i = 4
                · subst i4
                  have hcell : wr.cell? ⟨d, 4, none⟩ = some (.bool c.aw) := HPt.out.anys.here rfl
                  go_wp2_with fail
                  go_meet
                  exact ⟨rfl, rfl⟩
                · have n2 : (i : Int) ≠ 2 := by omega
                  have n4 : (i : Int) ≠ 4 := by omega
                  have hany : c.anyAt i = true := by
                    unfold Cr.anyAt
                    split
                    · exact absurd rfl i2
                    · exact absurd rfl i4
                    · rfl
                  have HAny := Lib.hid hany
                  clear hany i2 i4
                  go_wp2_with fail
                  go_meet
                  exact ⟨by rw [HAny.out]; rfl, rfl⟩
          case rest =>
            obtain ⟨rfl, rfl⟩ := hcut
            by_cases hB : (F && c.anyAt i) = true
            · have HTy := Lib.hid (HTz.out.trans (if_pos (by
                rw [Bool.and_eq_true] at hB
                exact ⟨of_decide_eq_true (HFu.out.trans hB.1), hB.2⟩)))
              rw [hB]
              clear hB
              have HPs := Lib.hid (HPt.out.next ((Below.refl _ _).alloc (Nat.le_refl _) (.cells #[.string ⟨#[42]⟩] 9)))
              have HMade := Lib.hid (Tide.At.made wr 9 #[.string ⟨#[42]⟩])
              have HJ := Lib.hid (show Calls Tryd.prog 35 #[.slice (some ⟨wr.heap.size, 0, none⟩) 1 1, .string ⟨#[44]⟩] (wr.alloc (.cells #[.string ⟨#[42]⟩] 9)) fun e w' => e = .returned (.string (c.txt i)) ∧ w' = wr.alloc (.cells #[.string ⟨#[42]⟩] 9) from
                (refJoined 44 (some ⟨wr.heap.size, 0, none⟩) 1 [Tide.star] _ (fun _ => ⟨_, rfl, fun j x hx => by
                  cases j with
                  | zero => cases hx; exact HMade.out.here rfl
                  | succ j => simp at hx⟩) (fun x hx => by rw [List.mem_singleton.1 hx]; decide) (by decide)).mono fun _ _ ⟨a, b⟩ => ⟨by rw [a, Tide.joinB_one, HTy.out], b.symm⟩)
              go_wp2_with fail
              refine HJ.out.mono ?_
              rintro ee w6 ⟨rfl, hw6⟩
              rw [← hw6] at HPs
              clear HJ hw6 HMade
              have HOx := Lib.hid (HPs.out.parts.alloc (.cells #[.string (c.txt i)] 9))
              go_wp2_with (at_builtin; go_loud (refine wpList_append_lies _ (by rfl) (.tmp 109) (.tmp 112) 53 (by rfl) 0 9 it (.string ByteArray.empty) 1 16 Tryd.underlying53 hit hz0 hz1 hz2 rfl (by decide) (.slice A i cap) _ _ rfl HOx.out.owns ⟨w6.heap.size, 0, none⟩ 1 1 [.string (c.txt i)] rfl rfl (Tide.new_one rfl) (by simp [Value.oneCell']) (by decide) HMa.out HMb.out (Nat.zero_le _) _ rfl ?_))
              intro b2 cap2 w7 hown hg ho hlt2
              have HN := Lib.hid (HPs.out.app hown hg ho hlt2)
              clear hown hg ho hlt2 HOx
              go_wp2_with fail
              go_roundw
              case rel => exact ⟨i + 1, HLt.out, by first | (go_num; done) | (congr 1; omega), HN⟩
              case measure => have := HLt.out; simp [intOf]; omega
            · have HTy := Lib.hid (HTz.out.trans (if_neg (by
                rintro ⟨e1, e2⟩
                apply hB
                rw [← HFu.out, decide_eq_true e1, e2]; rfl)))
              rw [Bool.eq_false_iff.2 hB]
              clear hB
              have HJ := Lib.hid (show Calls Tryd.prog 35 #[.slice A8 (Tide.txtsUp s lo hi (hi + 1)).length cap8, .string ⟨#[44]⟩] wr fun e w' => e = .returned (.string (c.txt i)) ∧ w' = wr from
                (refJoined 44 A8 cap8 (Tide.txtsUp s lo hi (hi + 1)) wr HRow.out (fun x hx => by have := HD.out x hx; omega) htl2).mono fun _ _ ⟨a, b⟩ => ⟨by rw [a, HTy.out], b.symm⟩)
              go_wp2_with fail
              refine HJ.out.mono ?_
              rintro ee w6 ⟨rfl, hw6⟩
              rw [← hw6] at HPt
              clear HJ hw6 HRow
              have HOx := Lib.hid (HPt.out.parts.alloc (.cells #[.string (c.txt i)] 9))
              go_wp2_with (at_builtin; go_loud (refine wpList_append_lies _ (by rfl) (.tmp 109) (.tmp 112) 53 (by rfl) 0 9 it (.string ByteArray.empty) 1 16 Tryd.underlying53 hit hz0 hz1 hz2 rfl (by decide) (.slice A i cap) _ _ rfl HOx.out.owns ⟨w6.heap.size, 0, none⟩ 1 1 [.string (c.txt i)] rfl rfl (Tide.new_one rfl) (by simp [Value.oneCell']) (by decide) HMa.out HMb.out (Nat.zero_le _) _ rfl ?_))
              intro b2 cap2 w7 hown hg ho hlt2
              have HN := Lib.hid (HPt.out.app hown hg ho hlt2)
              clear hown hg ho hlt2 HOx
              go_wp2_with fail
              go_roundw
              case rel => exact ⟨i + 1, HLt.out, by first | (go_num; done) | (congr 1; omega), HN⟩
              case measure => have := HLt.out; simp [intOf]; omega
    · have hie : i = 5 := by omega
      subst hie
      have i1 : (5 : Int) ≤ ((5 : Nat) : Int) := by omega
      have hl5 := c.txts_len 5
      have hj := refJoined 32 A cap (c.txts 5) wr (fun _ => by
        obtain ⟨b, cc, e, _, _, _, hr⟩ := HQ.out.parts.form (by decide)
        cases e
        exact ⟨b, rfl, fun j x hx => hr.cell (by rw [List.getElem?_map, hx]; rfl)⟩) (fun x hx => by have := c.txts_size 5 x hx; omega) (by omega)
      rw [hl5] at hj
      have HJ := Lib.hid hj
      have HFin := Lib.hid HQ.out.below
      clear hj hl5 hlt HQ
      go_wp2_with fail
      refine HJ.out.mono ?_
      rintro ee w6 ⟨rfl, rfl⟩
      go_wp2_with fail
      go_ret
      exact ⟨rfl, HFin.out⟩
end Go.Proofs.YthelnkoohbnjpaaDoor
