/- The walk of LoopCools. -/
import Derived.Test.YtcnoapogeohmkaaLopU
import Derived.Test.YtcnoapogeohmkaaOpenPlan
namespace Go.Proofs.Ytcnoapogeohmkaa
open Go.RowKit
set_option linter.unusedVariables false
def encB (b : Bool) : List Value := [.bool b]
def CoolAt (w0 w : World) (g : Nat) (P : Pln) (k : Nat) (now needed : Int) : Prop := ∃ l, LopRun w0 w.heap.size w g l ∧ CInv P k now needed l
/-- a plan without triggers -/
def Pln.bare (p : Pln) : Pln := { p with trigs := [] }
theorem rds_nil (R : Nat → Prop) (w : World) : RdsIn R w (.slice none 0 0) [] := ⟨⟨none, 0, rfl, fun h => absurd h (by simp)⟩, fun r hr => absurd hr (by simp), fun r hr => absurd hr (by simp)⟩
theorem trigs_nil (w : World) : Tide.ListIn w 17 Trg.enc (.slice none ([] : List Trg).length 0) [] := ⟨none, 0, rfl, fun h => by simp at h⟩
set_option maxRecDepth 100000 in
set_option maxHeartbeats 6400000 in
theorem loopCools_walk (p : Pln) (A : Option Addr) (cap : Nat) (hnm : p.name.size ≤ 9223372036854775807) (A1 : Option Addr) (cap1 : Nat) (xs : List Int) (w : World) (hx : NumsIn w A1 xs) (hxl : xs.length ≤ 9223372036854775807) (A2 : Option Addr) (cap2 : Nat) (bs : List Bool) (hb : Tide.ListIn w 1 encB (.slice A2 bs.length cap2) bs) (hbl : bs.length ≤ 9223372036854775807) :
    Calls Try.prog 3 #[plnV p (.slice A p.trigs.length cap), .slice A1 xs.length cap1, .slice A2 bs.length cap2] w fun e w' => e = .returned (.bool true) ∧ Below w.heap.size w w' := by
  have HX := Lib.hid hx
  have HBs := Lib.hid hb
  have HNm := Lib.hid hnm
  have HA := Lib.hid (Tide.At.made w 26 (plnC p (.slice A p.trigs.length cap)))
  have HB := Lib.hid ((Below.refl w.heap.size w).alloc (Nat.le_refl _) (.cells (plnC p (.slice A p.trigs.length cap)) 26))
  clear hx hb hnm
  unfold plnV
  go_enter Try.func3, Try.ntmps3
  go_upto_region 1 with fail
  change Code.wp Try.prog _ _ _ (w.alloc (.cells (plnC p (.slice A p.trigs.length cap)) 26))
  generalize w.alloc (.cells (plnC p (.slice A p.trigs.length cap)) 26) = W at HA HB ⊢
  go_wp2_with fail
  refine (looksC _).mono ?_
  rintro e w1 ⟨rfl, hb1⟩
  have HA1 := Lib.hid (HA.out.below hb1 HA.out.inside)
  have HB1 := Lib.hid (HB.out.trans (hb1.mono HB.out.size))
  clear hb1 HA HB
  have x17 : w1.cell? ⟨w.heap.size, 17, none⟩ = some (.slice A p.trigs.length cap) := HA1.out.here rfl
  have p17 := HA1.out.soft 17
  have HA2 : Hid (Tide.At (w1.setCell ⟨w.heap.size, 17, none⟩ (.slice none 0 0)) w.heap.size 26 (plnC p.bare (.slice none 0 0))) := Lib.hid (HA1.out.put 17 _)
  have HB2 := Lib.hid (HB1.out.setCell (p := ⟨w.heap.size, 17, none⟩) (Nat.le_refl _) (.slice none 0 0))
  go_upto_region 4 with fail
  clear x17 p17 HA1 HB1
  generalize w1.setCell ⟨w.heap.size, 17, none⟩ (.slice none 0 0) = W2 at HA2 HB2 ⊢
  go_wp2_with (refine wpList_load_row rfl 26 (.tmp 3) rfl w.heap.size rfl 26 _ (0, 0) _ HA2.out Try.underlying26 rfl (by kernel_rfl) ?_)
  by_cases hE : planE p.bare = 0
  · refine (lopNewYes p.bare none 0 W2 (trigs_nil W2) (fun t ht => by cases ht) HNm.out (by show 0 ≤ _; omega) hE).mono ?_
    intro e w3 h3
    obtain ⟨g, rfl, hr3⟩ := runNew (Below.refl _ W2) h3
    have HR3 := Lib.hid (show CoolAt W2 w3 g p.bare 0 0 0 from ⟨_, hr3, cool_new hE rfl⟩)
    have HP := Lib.hid (planE_ok hE)
    clear h3 hr3 hE
    by_cases hl : 60 < xs.length
    · have hl2 : (60 : Int) < (xs.length : Int) := by omega
      have HBe := Lib.hid (by obtain ⟨l, hr, _⟩ := HR3.out; exact HB2.out.trans (hr.out.mono HB2.out.size) : Below w.heap.size w w3)
      go_wp2_with fail
      go_ret
      exact ⟨rfl, HBe.out⟩
    · have hl2 : (xs.length : Int) ≤ 60 := by omega
      have hco0 := HP.out.cool
      have hco1 : 1 ≤ p.cool := hco0.1
      have hco2 : p.cool ≤ 100000 := hco0.2
      clear hco0
      go_wp2_with fail
      go_loopw [9, 10, 11, 34] (fun a b c i wr => ∃ (k : Nat) (now needed have0 : Int), k ≤ xs.length ∧ i = .int .i64 k ∧ a = .int .i64 now ∧ b = .int .i64 needed ∧ c = .int .i64 have0 ∧ 0 ≤ now ∧ now ≤ 200000 * k ∧ 1 ≤ have0 ∧ have0 ≤ 50 ∧ Hid (CoolAt W2 wr g p.bare k now needed)) (fun _ _ _ i _ => xs.length - (intOf i).toNat)
      case atStart => exact ⟨0, 0, 0, 1, Nat.zero_le _, rfl, rfl, rfl, rfl, by omega, by omega, by omega, by omega, HR3⟩
      case round =>
        obtain ⟨k, now, needed, have0, hk, rfl, rfl, rfl, rfl, n0, n1, v0, v1, HK⟩ := hrel
        obtain ⟨l, hr, hi⟩ := HK.out
        have HBk := Lib.hid (HB2.out.trans (hr.out.mono HB2.out.size))
        by_cases hlt : k < xs.length
        · obtain ⟨x, hx⟩ := Tide.get_some xs hlt
          obtain ⟨b, off, rfl, hbl1, hc⟩ := HX.out (by omega)
          have c0 : wr.cell? ⟨b, off + k, none⟩ = some (.int .i64 x) := (HBk.out.cell (p := ⟨b, off + k, none⟩) hbl1).trans (hc k x hx)
          have hat := HA2.out.below hr.out HA2.out.inside
          have c4 : wr.cell? ⟨w.heap.size, 4, none⟩ = some (.int .i64 p.cool) := hat.here rfl
          have k0 : (0 : Int) ≤ (k : Int) := by omega
          have k1 : (k : Int) < (xs.length : Int) := by omega
          have HR := Lib.hid hr; have HI := Lib.hid hi
          have HOk := Lib.hid (show 0 ≤ needed ∧ needed ≤ now from ⟨by have := hi.ok.need0; have := hi.need; omega, by have := hi.ok.need1; have := hi.need; have := hi.last; omega⟩)
          obtain ⟨isb, his⟩ : ∃ isb, (bs[k]?).getD false = isb := ⟨_, rfl⟩
          have HIs := Lib.hid his
          have hkk : k < 60 := by omega
          clear hr hi HK HR3 hx hc his hat hbl1
          go_wp2_with fail
          refine (restC x (2 * p.cool) _ (by omega) (by omega)).mono ?_
          rintro e w' ⟨rfl, rfl⟩
          have hd0 := Int.emod_nonneg x (show 2 * p.cool ≠ 0 by omega)
          have hd1 := Int.emod_lt_of_pos x (show (0 : Int) < 2 * p.cool by omega)
          generalize x % (2 * p.cool) = d at hd0 hd1 ⊢
          obtain ⟨now2, hn2⟩ : ∃ n2, now + d = n2 := ⟨_, rfl⟩
          have hw : IntKind.i64.wrap (now + d) = now2 := by rw [IntWalk.i64_in _ (by omega)]; exact hn2
          have HStep := Lib.hid (cool_step (now' := now2) (have0 := have0) (is := isb) HI.out (by omega) (by omega) v0 v1)
          go_upto_region 12 with fail
          go_cut [14] (fun s wx => s = .bool isb ∧ wr = wx)
          case first =>
            by_cases hkb : k < bs.length
            · obtain ⟨y, hy⟩ := Tide.get_some bs hkb
              obtain ⟨A3, cap3, e3, hc3⟩ := HBs.out
              obtain ⟨rfl, _, rfl⟩ := slice_eq e3
              obtain ⟨b3, off3, rfl, hbl3, hc3⟩ := hc3 (by omega)
              have c3 : wr.cell? ⟨b3, off3 + k, none⟩ = some (.bool y) := by
                have := (HBk.out.cell (p := ⟨b3, off3 + k * 1 + 0, none⟩) hbl3).trans (hc3 k y 0 _ hy rfl)
                simpa using this
              have e4 : y = isb := by rw [← HIs.out, hy]; rfl
              subst e4
              have k2 : (k : Int) < (bs.length : Int) := by omega
              clear hc3 hy e3 hbl3
              go_wp2_with fail
              go_meet
              exact ⟨rfl, rfl⟩
            · have e4 : isb = false := by rw [← HIs.out, List.getElem?_eq_none (by omega)]; rfl
              subst e4
              have k2 : (bs.length : Int) ≤ (k : Int) := by omega
              clear hkb
              go_wp2_with fail
              go_meet
              exact ⟨rfl, rfl⟩
          case rest =>
            obtain ⟨rfl, rfl⟩ := hcut
            obtain ⟨nd, hnd⟩ : ∃ nd, (if isb then now2 else needed) = nd := ⟨_, rfl⟩
            have HNd := Lib.hid hnd
            clear hnd
            go_upto_if 56 with fail
            go_cut [10] (fun s wx => s = .int .i64 nd ∧ wr = wx)
            case first =>
              cases isb
              · have e5 : needed = nd := HNd.out
                subst e5
                go_wp2_with fail
                go_meet
                exact ⟨rfl, rfl⟩
              · have e5 : now2 = nd := HNd.out
                subst e5
                go_wp2_with fail
                go_meet
                exact ⟨rfl, rfl⟩
            case rest =>
              obtain ⟨rfl, rfl⟩ := hcut
              have hs := HStep.out
              rw [HNd.out] at hs
              obtain ⟨s1, ⟨s2, s3⟩, s4, s5⟩ := hs
              have HS4 := Lib.hid s4; have HS5 := Lib.hid s5; have HS1 := Lib.hid s1; have HS2 := Lib.hid s2; have HS3 := Lib.hid s3
              clear s1 s2 s3 s4 s5 HStep c0 c4
              go_wp2_with fail
              refine (runLook W2 wr.heap.size (fun _ => False) g _ l now2 0 have0 [] isb k _ HR.out (rds_nil _ _) (fun b hb => hb.elim) HI.out.ok (by omega) (by show 0 ≤ _; omega)).mono ?_
              rintro e w7 ⟨he, hr7, _⟩
              obtain ⟨N, hN⟩ : ∃ N, lookN l now2 0 have0 [] isb = N := ⟨_, rfl⟩
              obtain rfl := he.trans (two_ret hN HS1.out)
              rw [hN] at HS2 HS3 HS4
              have HNx := Lib.hid (show CoolAt W2 w7 g p.bare (k + 1) now2 nd from ⟨_, hr7, HS5.out⟩)
              have hat := HA2.out.below hr7.out HA2.out.inside
              have c1 : w7.cell? ⟨w.heap.size, 1, none⟩ = some (.int .i64 p.mn) := hat.here rfl
              have c4 : w7.cell? ⟨w.heap.size, 4, none⟩ = some (.int .i64 p.cool) := hat.here rfl
              have hnd0 : 0 ≤ nd ∧ nd ≤ now2 := by have := HOk.out; rw [← HNd.out]; split <;> omega
              have hN0 := HS2.out
              have hN1 := HS3.out
              have hkk2 : now2 ≤ 200000 * ((k + 1 : Nat) : Int) := by push_cast; omega
              clear he hr7 hN hat HS1 HS2 HS3 HS5 HI HR
              by_cases hz : N = 0
              · obtain ⟨z1, z2, z3⟩ := HS4.out hz
                subst z1
                subst hz
                have z4 : IntKind.i64.wrap (now2 - nd) = now2 - nd := IntWalk.i64_in _ (by omega)
                have z5 : p.cool ≤ now2 - nd := z2
                have z6 : p.mn ≤ 0 := z3
                clear z2 z3 HS4
                go_wp2_with fail
                go_roundw
                case rel => exact ⟨k + 1, now2, nd, 1, by omega, by go_num, rfl, rfl, rfl, by omega, hkk2, by omega, by omega, HNx⟩
                case measure => simp [intOf]; omega
              · have hz2 : (N == 0) = false := by simpa using hz
                have hz3 : 1 ≤ N := by omega
                clear HS4
                go_wp2_with fail
                go_roundw
                case rel => exact ⟨k + 1, now2, nd, N, by omega, by go_num, rfl, rfl, rfl, by omega, hkk2, by omega, by omega, HNx⟩
                case measure => simp [intOf]; omega
        · have hke : k = xs.length := by omega
          clear hr hi HK HR3
          go_wp2_with fail
          go_ret
          exact ⟨rfl, HBk.out⟩
  · refine (lopNewNo p.bare none 0 W2 (trigs_nil W2) (fun t ht => by cases ht) HNm.out (by show 0 ≤ _; omega) hE).mono ?_
    rintro e w3 ⟨rfl, hb3⟩
    have HBe := Lib.hid (HB2.out.trans (hb3.mono HB2.out.size))
    have hEb : (planE p.bare != 0) = true := by simpa using hE
    generalize planE p.bare = E at hEb hE ⊢
    clear hb3
    go_wp2_with fail
    go_ret
    exact ⟨rfl, HBe.out⟩
end Go.Proofs.Ytcnoapogeohmkaa
