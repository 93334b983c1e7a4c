/- The walk of PlanReads. -/
import Derived.Test.YthelnkoohbnjpaaDoorPrlR
import Derived.Test.YthelnkoohbnjpaaDoorSamP
set_option linter.unusedVariables false
set_option linter.unusedSimpArgs false
namespace Go.Proofs.YthelnkoohbnjpaaDoor
open Go.RowKit
set_option linter.unusedVariables false
theorem readR_few (s : ByteArray) : (readR s).1.trigs.length ≤ 5 := by
  unfold readR
  split
  · show ([] : List Trg).length ≤ 5
    simp
  · split
    · show ([] : List Trg).length ≤ 5
      simp
    · split
      · rename_i h
        exact (planE_ok h).few
      · show ([] : List Trg).length ≤ 5
        simp
theorem planPost_form {s : ByteArray} {w w' : World} {e : Ending} (h : PlanPost s w e w') : ∃ (A : Option Addr) (cap : Nat), e = .returned (.tuple #[.agg (plnC (readR s).1 (.slice A (readR s).1.trigs.length cap)), .int .i64 ((readR s).2.1 : Int), .int .i64 (readR s).2.2]) ∧ Tide.ListIn w' 17 Trg.enc (.slice A (readR s).1.trigs.length cap) (readR s).1.trigs ∧ Below w.heap.size w w' := by
  obtain ⟨v, he, hl, hb⟩ := h
  obtain ⟨A, cap, rfl, hA⟩ := id hl
  exact ⟨A, cap, he, hl, hb⟩
set_option maxRecDepth 100000 in
set_option maxHeartbeats 6400000 in
theorem planReads_walk (s : ByteArray) (m : Int) (w : World) (hm : w.cell? ⟨0, 0, none⟩ = some (.int .i64 m)) (hs : s.size ≤ 9223372036854775807) : Calls Tryd.prog 6 #[.string s] w fun e w' => e = .returned (.bool true) ∧ Below w.heap.size w w' := by
  have hl : (readR s).1.trigs.length ≤ 9223372036854775807 := Nat.le_trans (readR_few s) (by decide)
  have H1 := Lib.hid ((planParse s m w hm hs).mono fun e w' h => planPost_form h)
  have H2 := Lib.hid (fun W => (refReadPlan s W hs).mono fun e w' h => planPost_form h)
  have H3 := Lib.hid (fun (A1 A2 : Option Addr) (c1 c2 : Nat) (W : World) h1 h2 => refSame (readR s).1 A1 A2 c1 c2 W h1 h2 hl)
  generalize readR s = R at H1 H2 H3
  obtain ⟨p, k, x⟩ := R
  have q1 : ((k : Int) == (k : Int)) = true := by simp
  have q2 : (x == x) = true := by simp
  clear hl hm
  go_enter Tryd.func6, Tryd.ntmps6
  go_wp2_with fail
  refine H1.out.mono ?_
  rintro e w1 ⟨A1, c1, rfl, hl1, hb1⟩
  have HL1 := Lib.hid hl1; have HB1 := Lib.hid hb1
  clear hl1 hb1 H1
  have HZw1 := Lib.hid (show Tide.At (w1.alloc (.cells #[.string ⟨#[]⟩, .int .i64 0, .int .i64 0, .int .i64 0, .int .i64 0, .int .i64 0, .int .i64 0, .int .i64 0, .int .i64 0, .int .i64 0, .int .i64 0, .int .i64 0, .int .i64 0, .int .i64 0, .int .i64 0, .int .i64 0, .int .i64 0, .slice none 0 0] 42)) w1.heap.size 42 (plnC zeroP (.slice none 0 0)) from Tide.At.made w1 42 (plnC zeroP (.slice none 0 0)))
  go_upto_region 2 with (refine wpList_store_row rfl 42 (.tmp 3) (.tmp 12) rfl w1.heap.size (plnC p (.slice A1 p.trigs.length c1)) rfl rfl 42 (plnC zeroP (.slice none 0 0)) HZw1.out (by kernel_rfl) rfl (by kernel_rfl) ?_)
  have hbz := below_row ((Below.refl w1.heap.size w1).alloc (Nat.le_refl _) (.cells #[.string ⟨#[]⟩, .int .i64 0, .int .i64 0, .int .i64 0, .int .i64 0, .int .i64 0, .int .i64 0, .int .i64 0, .int .i64 0, .int .i64 0, .int .i64 0, .int .i64 0, .int .i64 0, .int .i64 0, .int .i64 0, .int .i64 0, .int .i64 0, .slice none 0 0] 42)) (g := w1.heap.size) (Nat.le_refl _) (plnC p (.slice A1 p.trigs.length c1))
  have HA := Lib.hid (row_set2 HZw1.out (plnC p (.slice A1 p.trigs.length c1)))
  have HB2 := Lib.hid (HB1.out.trans (hbz.mono HB1.out.size))
  have HL2 := Lib.hid (HL1.out.below hbz (Nat.le_refl _))
  clear hbz HZw1
  generalize (w1.alloc (.cells #[.string ⟨#[]⟩, .int .i64 0, .int .i64 0, .int .i64 0, .int .i64 0, .int .i64 0, .int .i64 0, .int .i64 0, .int .i64 0, .int .i64 0, .int .i64 0, .int .i64 0, .int .i64 0, .int .i64 0, .int .i64 0, .int .i64 0, .int .i64 0, .slice none 0 0] 42)).setRow w1.heap.size (plnC p (.slice A1 p.trigs.length c1)) = W2 at HA HB2 HL2 ⊢
  generalize w1.heap.size = g1 at HA ⊢
  clear HL1 HB1
  go_wp2_with fail
  refine (H2.out W2).mono ?_
  rintro e w3 ⟨A2, c2, rfl, hl3, hb3⟩
  have HL3 := Lib.hid hl3
  have HA3 := Lib.hid (HA.out.below hb3 HA.out.inside)
  have HB3 := Lib.hid (HB2.out.trans (hb3.mono HB2.out.size))
  have HL2b := Lib.hid (HL2.out.below hb3 (Nat.le_refl _))
  clear hl3 hb3 HA HB2 HL2
  as_aux_lemma =>
  have HZw3 := Lib.hid (show Tide.At (w3.alloc (.cells #[.string ⟨#[]⟩, .int .i64 0, .int .i64 0, .int .i64 0, .int .i64 0, .int .i64 0, .int .i64 0, .int .i64 0, .int .i64 0, .int .i64 0, .int .i64 0, .int .i64 0, .int .i64 0, .int .i64 0, .int .i64 0, .int .i64 0, .int .i64 0, .slice none 0 0] 42)) w3.heap.size 42 (plnC zeroP (.slice none 0 0)) from Tide.At.made w3 42 (plnC zeroP (.slice none 0 0)))
  go_upto_region 3 with (refine wpList_store_row rfl 42 (.tmp 6) (.tmp 18) rfl w3.heap.size (plnC p (.slice A2 p.trigs.length c2)) rfl rfl 42 (plnC zeroP (.slice none 0 0)) HZw3.out (by kernel_rfl) rfl (by kernel_rfl) ?_)
  have hbb := below_row ((Below.refl w3.heap.size w3).alloc (Nat.le_refl _) (.cells #[.string ⟨#[]⟩, .int .i64 0, .int .i64 0, .int .i64 0, .int .i64 0, .int .i64 0, .int .i64 0, .int .i64 0, .int .i64 0, .int .i64 0, .int .i64 0, .int .i64 0, .int .i64 0, .int .i64 0, .int .i64 0, .int .i64 0, .int .i64 0, .slice none 0 0] 42)) (g := w3.heap.size) (Nat.le_refl _) (plnC p (.slice A2 p.trigs.length c2))
  have HC := Lib.hid (row_set2 HZw3.out (plnC p (.slice A2 p.trigs.length c2)))
  have HA4 := Lib.hid (HA3.out.below hbb HA3.out.inside)
  have HB4 := Lib.hid (HB3.out.trans (hbb.mono HB3.out.size))
  have HS := Lib.hid (H3.out A1 A2 c1 c2 _ (HL2b.out.below hbb (Nat.le_refl _)) (HL3.out.below hbb (Nat.le_refl _)))
  clear hbb HZw3
  generalize (w3.alloc (.cells #[.string ⟨#[]⟩, .int .i64 0, .int .i64 0, .int .i64 0, .int .i64 0, .int .i64 0, .int .i64 0, .int .i64 0, .int .i64 0, .int .i64 0, .int .i64 0, .int .i64 0, .int .i64 0, .int .i64 0, .int .i64 0, .int .i64 0, .int .i64 0, .slice none 0 0] 42)).setRow w3.heap.size (plnC p (.slice A2 p.trigs.length c2)) = W4 at HC HA4 HB4 HS ⊢
  generalize w3.heap.size = g2 at HC ⊢
  clear H2 H3 HL3 HL2b HA3 HB3
  as_aux_lemma =>
  go_wp2_with (first | refine wpList_load_row rfl 42 (.tmp 3) rfl g1 rfl 42 _ (0, 0) _ HA4.out Tryd.underlying42 rfl (by kernel_rfl) ?_ | refine wpList_load_row rfl 42 (.tmp 6) rfl g2 rfl 42 _ (0, 0) _ HC.out Tryd.underlying42 rfl (by kernel_rfl) ?_)
  refine HS.out.mono ?_
  rintro e w5 ⟨rfl, hb5⟩
  have HB5 := Lib.hid (HB4.out.trans (hb5.mono HB4.out.size))
  clear hb5
  go_wp2_with fail
  go_ret
  exact ⟨rfl, HB5.out⟩
end Go.Proofs.YthelnkoohbnjpaaDoor
