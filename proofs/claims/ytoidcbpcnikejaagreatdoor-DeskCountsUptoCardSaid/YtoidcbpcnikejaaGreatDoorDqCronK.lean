/- The contract of cron.Check. -/
import Derived.Deep.RegionHeld3
import Derived.Test.YtoidcbpcnikejaaGreatDoorTk
import Derived.Test.YtoidcbpcnikejaaGreatDoorDq00
set_option linter.unusedVariables false
set_option linter.unusedSimpArgs false
set_option maxRecDepth 100000
set_option maxHeartbeats 12800000
namespace Go.Proofs.YtoidcbpcnikejaaGreatDoor
open Go.RowKit
structure Cr where
 mi : Nat
 h : Nat
 d : Nat
 mo : Nat
 wk : Nat
 ad : Bool
 aw : Bool
def Cr.cells (c : Cr) : Array Value := #[.int .u64 (c.mi : Int), .int .u64 (c.h : Int), .int .u64 (c.d : Int), .int .u64 (c.mo : Int), .int .u64 (c.wk : Int), .bool c.ad, .bool c.aw]
def Cr.fits (c : Cr) : Prop := c.mi < 18446744073709551616 ∧ c.h < 18446744073709551616 ∧ c.d < 18446744073709551616 ∧ c.mo < 18446744073709551616 ∧ c.wk < 18446744073709551616
def Cr.okAt (c : Cr) : Nat → Bool
 | 0 => G.okField c.mi 0 59 false
 | 1 => G.okField c.h 0 23 false
 | 2 => G.okField c.d 1 31 c.ad
 | 3 => G.okField c.mo 1 12 false
 | _ => G.okField c.wk 0 6 c.aw
def Cr.ok (c : Cr) : Bool := c.okAt 0 && c.okAt 1 && c.okAt 2 && c.okAt 3 && c.okAt 4
def Cr.err (c : Cr) : Int := if c.ok then 0 else 1
theorem Cr.err_no {c : Cr} (h : c.ok = false) : c.err = 1 := by unfold Cr.err; rw [h]; rfl
theorem Cr.err_yes {c : Cr} (h : c.ok = true) : c.err = 0 := by unfold Cr.err; rw [h]; rfl
theorem Cr.ok_of {c : Cr} (h : ∀ i, i < 5 → c.okAt i = true) : c.ok = true := by
 unfold Cr.ok; rw [h 0 (by omega), h 1 (by omega), h 2 (by omega), h 3 (by omega), h 4 (by omega)]; rfl
theorem Cr.ok_at {c : Cr} (h : c.ok = true) (i : Nat) (hi : i < 5) : c.okAt i = true := by
 unfold Cr.ok at h
 simp only [Bool.and_eq_true] at h
 obtain ⟨⟨⟨⟨h0, h1⟩, h2⟩, h3⟩, h4⟩ := h
 match i, hi with
 | 0, _ => exact h0
 | 1, _ => exact h1
 | 2, _ => exact h2
 | 3, _ => exact h3
 | 4, _ => exact h4
theorem Cr.not_ok {c : Cr} (i : Nat) (hi : i < 5) (h : c.okAt i = false) : c.ok = false := by
 cases hc : c.ok with
 | false => rfl
 | true => rw [Cr.ok_at hc i hi] at h; cases h
theorem field_row {c : Cr} (hf : c.fits) {w : World} {g h : Nat} (hg : G.At w g 92 c.cells) (hh : G.At w h 142 (fieldCells g)) (j : Nat) (hj : j < 5) :
  ∃ (s lo hi si : Nat) (ap : Option Nat) (b : Bool), lo ≤ hi ∧ hi ≤ 60 ∧ s < 18446744073709551616 ∧ c.okAt j = G.okField s lo hi (ap.isSome && b) ∧
   w.cell? ⟨h, j * 4, none⟩ = some (.pointer (some ⟨g, si, none⟩)) ∧ w.cell? ⟨h, j * 4 + 1, none⟩ = some (.int .i64 lo) ∧ w.cell? ⟨h, j * 4 + 2, none⟩ = some (.int .i64 hi) ∧
   w.cell? ⟨h, j * 4 + 3, none⟩ = some (.pointer (ap.map fun a => ⟨g, a, none⟩)) ∧ w.cell? ⟨g, si, none⟩ = some (.int .u64 (s : Int)) ∧ (∀ a, ap = some a → w.cell? ⟨g, a, none⟩ = some (.bool b)) := by
 obtain ⟨f0, f1, f2, f3, f4⟩ := hf
 match j, hj with
 | 0, _ => exact ⟨c.mi, 0, 59, 0, none, false, by omega, by omega, f0, rfl, hh.here rfl, hh.here rfl, hh.here rfl, hh.here rfl, hg.here rfl, fun a h => by cases h⟩
 | 1, _ => exact ⟨c.h, 0, 23, 1, none, false, by omega, by omega, f1, rfl, hh.here rfl, hh.here rfl, hh.here rfl, hh.here rfl, hg.here rfl, fun a h => by cases h⟩
 | 2, _ => exact ⟨c.d, 1, 31, 2, some 5, c.ad, by omega, by omega, f2, rfl, hh.here rfl, hh.here rfl, hh.here rfl, hh.here rfl, hg.here rfl, fun a h => by cases h; exact hg.here rfl⟩
 | 3, _ => exact ⟨c.mo, 1, 12, 3, none, false, by omega, by omega, f3, rfl, hh.here rfl, hh.here rfl, hh.here rfl, hh.here rfl, hg.here rfl, fun a h => by cases h⟩
 | 4, _ => exact ⟨c.wk, 0, 6, 4, some 6, c.aw, by omega, by omega, f4, rfl, hh.here rfl, hh.here rfl, hh.here rfl, hh.here rfl, hg.here rfl, fun a h => by cases h; exact hg.here rfl⟩
def RegS (H g si s lo hi : Nat) (v3 : Value) (ax : Nat) (vx : Value) (W : World) : Prop := W.cell? ⟨H, 0, none⟩ = some (.pointer (some ⟨g, si, none⟩)) ∧ W.cell? ⟨H, 1, none⟩ = some (.int .i64 lo) ∧ W.cell? ⟨H, 2, none⟩ = some (.int .i64 hi) ∧ W.cell? ⟨H, 3, none⟩ = some v3 ∧ W.cell? ⟨g, si, none⟩ = some (.int .u64 (s : Int)) ∧ W.cell? ⟨g, ax, none⟩ = some vx
theorem all_keep (lo hi : Nat) (a b : Value) (w : World) (h1 : lo ≤ hi) (h2 : hi ≤ 60) (p0 p1 p2 p3 p4 p5 : Addr) (v0 v1 v2 v3 v4 v5 : Value) (q0 : w.cell? p0 = some v0) (q1 : w.cell? p1 = some v1) (q2 : w.cell? p2 = some v2) (q3 : w.cell? p3 = some v3) (q4 : w.cell? p4 = some v4) (q5 : w.cell? p5 = some v5) :
  Calls Tryz.prog 109 #[.agg #[a, .int .i64 lo, .int .i64 hi, b]] w fun e w' => e = .returned (.int .u64 (G.allN lo hi : Nat)) ∧ w'.cell? p0 = some v0 ∧ w'.cell? p1 = some v1 ∧ w'.cell? p2 = some v2 ∧ w'.cell? p3 = some v3 ∧ w'.cell? p4 = some v4 ∧ w'.cell? p5 = some v5 ∧ Below w.heap.size w w' :=
 (cronAll lo hi a b w h1 h2).mono fun _ _ ⟨he, hb⟩ => ⟨he, (hb.cell (World.block_lt_of_cell? w _ q0)).trans q0, (hb.cell (World.block_lt_of_cell? w _ q1)).trans q1, (hb.cell (World.block_lt_of_cell? w _ q2)).trans q2, (hb.cell (World.block_lt_of_cell? w _ q3)).trans q3, (hb.cell (World.block_lt_of_cell? w _ q4)).trans q4, (hb.cell (World.block_lt_of_cell? w _ q5)).trans q5, hb⟩
theorem cronCheck (c : Cr) (hf : c.fits) (w : World) : Calls Tryz.prog 111 #[.agg c.cells] w fun e w' => e = .returned (.int .i64 c.err) ∧ Below w.heap.size w w' := by
 go_enter Tryz.func111, Tryz.ntmps111
 go_wp2_with fail
 refine (cronFields w.heap.size _ c.cells (G.At.made w _ _) rfl).mono ?_
 rintro e w1 ⟨h, rfl, hh, hA, hb⟩
 have hcr : G.At w1 w.heap.size 92 c.cells := (G.At.made w _ _).below hb (by simp)
 have hbw : Below w.heap.size w w1 := ((Below.refl _ _).alloc (Nat.le_refl _) _).trans (hb.mono (by simp))
 have hh' : w.heap.size ≤ h := by have := hh; simp at this; omega
 have HA := J hA; have HC := J hcr; have HF := J hf
 clear hb hh hA hcr hf
 go_wp2_with fail
 go_loopw [7] (fun i wr => ∃ j : Nat, j ≤ 5 ∧ i = .int .i64 j ∧ Hid (∀ k, k < j → c.okAt k = true) ∧ Below w1.heap.size w1 wr) (fun i _ => 5 - (intOf i).toNat)
 case atStart => exact ⟨0, by omega, rfl, fun k hk => by omega, Below.refl _ _⟩
 obtain ⟨j, hj, rfl, hok, hbr⟩ := hrel
 by_cases hlt : j < 5
 ·obtain ⟨s, lo, hi, si, ap, b, l0, l1, l2, heq, q0, q1, q2, q3, q4, q5⟩ := field_row HF.u (HC.u.below hbr HC.u.inside) (HA.u.below hbr HA.u.inside) j hlt
  have hj0 : (0 : Int) ≤ (j : Int) := by omega
  have hj1 : (j : Int) < 5 := by omega
  have HE := J heq; have HQ := J q5; have HL := J l2
  clear heq q5 l2
  have hzz : w.heap.size < wr.heap.size := Nat.lt_of_lt_of_le HC.u.inside hbr.size
  by_cases hs : s = 0
  ·have hs' : ((s : Int) == 0) = true := by simp [hs]
   have hno : c.okAt j = false := by rw [HE.u]; unfold G.okField; rw [hs']; rfl
   have hfin := J (Cr.err_no (Cr.not_ok j hlt hno))
   clear hs hno
   go_wp2_with fail
   go_quiet (fail)
   go_wp2_with fail
   go_ret
   refine ⟨ret_int hfin.u.symm, ?_⟩
   exact below_drewN ((hbw.trans (hbr.mono hbw.size)).alloc (Nat.le_trans hbw.size hbr.size) _) _
  have hs' : ((s : Int) == 0) = false := by simp; omega
  by_cases hn : bits .andNot .u64 (s : Int) (G.allN lo hi : Nat) = 0
  ·have hn' : (bits .andNot .u64 (s : Int) (G.allN lo hi : Nat) != 0) = false := by simp [hn]
   have hn'' : (bits .andNot .u64 (s : Int) (G.allN lo hi : Nat) == 0) = true := by simp [hn]
   have heq := HE.u
   unfold G.okField at heq
   rw [hs', hn''] at heq
   have HE2 := J heq
   clear hs hn hn'' heq
   cases ap with
   | none =>
    simp only [Option.map_none] at q3
    have hbox := (G.At.made wr 142 #[.pointer (some ⟨w.heap.size, si, none⟩), .int .i64 lo, .int .i64 hi, .pointer none]).drew
    have hset : ((wr.alloc (.cells #[.pointer (some ⟨w.heap.size, si, none⟩), .int .i64 lo, .int .i64 hi, .pointer none] 142)).drew).cell? ⟨w.heap.size, si, none⟩ = some (.int .u64 (s : Int)) := (World.cell?_alloc_lt wr _ _ hzz).trans q4
    have hax : ((wr.alloc (.cells #[.pointer (some ⟨w.heap.size, si, none⟩), .int .i64 lo, .int .i64 hi, .pointer none] 142)).drew).cell? ⟨w.heap.size, si, none⟩ = some (.int .u64 (s : Int)) := (World.cell?_alloc_lt wr _ _ hzz).trans q4
    have hall := J (fun W => all_keep lo hi (.pointer (some ⟨w.heap.size, si, none⟩)) (.pointer none) W l0 l1 ⟨wr.heap.size, 0, none⟩ ⟨wr.heap.size, 1, none⟩ ⟨wr.heap.size, 2, none⟩ ⟨wr.heap.size, 3, none⟩ ⟨w.heap.size, si, none⟩ ⟨w.heap.size, si, none⟩)
    have HS0 := J (show RegS wr.heap.size w.heap.size si s lo hi (.pointer none) (si) (.int .u64 (s : Int)) _ from ⟨hbox.here (i := 0) rfl, hbox.here (i := 1) rfl, hbox.here (i := 2) rfl, hbox.here (i := 3) rfl, hset, hax⟩)
    clear hbox hset hax
    go_wp2_with fail
    have hS : (RegS wr.heap.size w.heap.size si s lo hi (.pointer none) (si) (.int .u64 (s : Int))) ((wr.alloc (.cells #[.pointer (some ⟨w.heap.size, si, none⟩), .int .i64 lo, .int .i64 hi, .pointer none] 142)).drew) := HS0.u
    refine wp_region_held_drew (S := (RegS wr.heap.size w.heap.size si s lo hi (.pointer none) (si) (.int .u64 (s : Int)))) (by kernel_rfl) hS (fun _ => ?_)
    change wpAnyH _ _ _ _ _ 35 #[false, false, false, false, false, false, false, false, false, false, false, false, false, false, false, false, false, false, false, false, false, false, false, false, false, false, false, false, false, false, false, false, false, false, false] _ (World.drew _)
    refine tq 0 (.pointer (some ⟨wr.heap.size, 0, none⟩)) rfl (fun W hW => ?_) hS ?_
    ·obtain ⟨z0, z1, z2, z3, z4, z5⟩ := hW; go_simp
    simp only [Act.put, tkS]
    refine tq 1 (.pointer (some ⟨w.heap.size, si, none⟩)) rfl (fun W hW => ?_) hS ?_
    ·obtain ⟨z0, z1, z2, z3, z4, z5⟩ := hW; go_simp
    simp only [Act.put, tkS]
    refine tq 2 (.pointer (some ⟨w.heap.size, si, none⟩)) rfl (fun W hW => ?_) hS ?_
    ·obtain ⟨z0, z1, z2, z3, z4, z5⟩ := hW; go_simp
    simp only [Act.put, tkS]
    refine tq 3 (.int .u64 (s : Int)) rfl (fun W hW => ?_) hS ?_
    ·obtain ⟨z0, z1, z2, z3, z4, z5⟩ := hW; go_simp
    simp only [Act.put, tkS]
    refine tq 4 (.bool false) rfl (fun W hW => ?_) hS ?_
    ·obtain ⟨z0, z1, z2, z3, z4, z5⟩ := hW; go_simp
    simp only [Act.put, tkS]
    refine tq 5 (.bool false) rfl (fun W hW => ?_) hS ?_
    ·obtain ⟨z0, z1, z2, z3, z4, z5⟩ := hW; go_simp
    simp only [Act.put, tkS]
    refine tq 6 (.pointer (some ⟨wr.heap.size, 0, none⟩)) rfl (fun W hW => ?_) hS ?_
    ·obtain ⟨z0, z1, z2, z3, z4, z5⟩ := hW; go_simp
    simp only [Act.put, tkS]
    refine tq 7 (.pointer (some ⟨w.heap.size, si, none⟩)) rfl (fun W hW => ?_) hS ?_
    ·obtain ⟨z0, z1, z2, z3, z4, z5⟩ := hW; go_simp
    simp only [Act.put, tkS]
    refine tq 8 (.pointer (some ⟨w.heap.size, si, none⟩)) rfl (fun W hW => ?_) hS ?_
    ·obtain ⟨z0, z1, z2, z3, z4, z5⟩ := hW; go_simp
    simp only [Act.put, tkS]
    refine tq 9 (.int .u64 (s : Int)) rfl (fun W hW => ?_) hS ?_
    ·obtain ⟨z0, z1, z2, z3, z4, z5⟩ := hW; go_simp
    simp only [Act.put, tkS]
    refine tq 10 (.agg #[.pointer (some ⟨w.heap.size, si, none⟩), .int .i64 lo, .int .i64 hi, .pointer none]) rfl (fun W hW => ?_) hS ?_
    ·obtain ⟨z0, z1, z2, z3, z4, z5⟩ := hW; go_simp
    simp only [Act.put, tkS]
    refine wpAnyH_ready (rs := [11]) (by kernel_rfl) (by simp) (AllReadyH.cons rfl (fun K hK => ?_) AllReadyH.nil)
    go_simp
    refine (hall.u _ _ _ _ _ _ _ hS.1 hS.2.1 hS.2.2.1 hS.2.2.2.1 hS.2.2.2.2.1 hS.2.2.2.2.2).mono ?_
    rintro e w2 ⟨rfl, y0, y1, y2, y3, y4, y5, hbb2⟩
    have hS2 : (RegS wr.heap.size w.heap.size si s lo hi (.pointer none) (si) (.int .u64 (s : Int))) w2 := ⟨y0, y1, y2, y3, y4, y5⟩
    clear y0 y1 y2 y3 y4 y5
    go_wp2_with fail
    refine hK.out _ _ hS2 (fun _ => ?_)
    clear hK K
    refine tq 12 (.int .u64 (bits .andNot .u64 (s : Int) (G.allN lo hi : Nat))) rfl (fun W hW => ?_) hS2 ?_
    ·obtain ⟨z0, z1, z2, z3, z4, z5⟩ := hW; go_simp
    simp only [Act.put, tkS]
    refine tq 13 (.bool false) rfl (fun W hW => ?_) hS2 ?_
    ·obtain ⟨z0, z1, z2, z3, z4, z5⟩ := hW; go_simp
    simp only [Act.put, tkS]
    refine tq 14 (.bool false) rfl (fun W hW => ?_) hS2 ?_
    ·obtain ⟨z0, z1, z2, z3, z4, z5⟩ := hW; go_simp
    simp only [Act.put, tkS]
    refine tq 15 (.bool false) rfl (fun W hW => ?_) hS2 ?_
    ·obtain ⟨z0, z1, z2, z3, z4, z5⟩ := hW; go_simp
    simp only [Act.put, tkS]
    refine tq 16 (.pointer (some ⟨wr.heap.size, 3, none⟩)) rfl (fun W hW => ?_) hS2 ?_
    ·obtain ⟨z0, z1, z2, z3, z4, z5⟩ := hW; go_simp
    simp only [Act.put, tkS]
    refine tq 17 (.pointer none) rfl (fun W hW => ?_) hS2 ?_
    ·obtain ⟨z0, z1, z2, z3, z4, z5⟩ := hW; go_simp
    simp only [Act.put, tkS]
    refine tq 18 (.bool false) rfl (fun W hW => ?_) hS2 ?_
    ·obtain ⟨z0, z1, z2, z3, z4, z5⟩ := hW; go_simp
    simp only [Act.put, tkS]
    refine tq 19 (.bool false) rfl (fun W hW => ?_) hS2 ?_
    ·obtain ⟨z0, z1, z2, z3, z4, z5⟩ := hW; go_simp
    simp only [Act.put, tkS]
    refine tk 20 undef rfl (.inr ⟨by rfl, rfl⟩) hS2 ?_
    simp only [Act.put, tkS]
    refine tk 21 undef rfl (.inr ⟨by rfl, rfl⟩) hS2 ?_
    simp only [Act.put, tkS]
    refine tk 22 undef rfl (.inr ⟨by rfl, rfl⟩) hS2 ?_
    simp only [Act.put, tkS]
    refine tk 23 undef rfl (.inr ⟨by rfl, rfl⟩) hS2 ?_
    simp only [Act.put, tkS]
    refine tq 24 (.bool false) rfl (fun W hW => ?_) hS2 ?_
    ·obtain ⟨z0, z1, z2, z3, z4, z5⟩ := hW; go_simp
    simp only [Act.put, tkS]
    refine tq 25 (.bool false) rfl (fun W hW => ?_) hS2 ?_
    ·obtain ⟨z0, z1, z2, z3, z4, z5⟩ := hW; go_simp
    simp only [Act.put, tkS]
    refine tk 26 undef rfl (.inr ⟨by rfl, rfl⟩) hS2 ?_
    simp only [Act.put, tkS]
    refine tk 27 undef rfl (.inr ⟨by rfl, rfl⟩) hS2 ?_
    simp only [Act.put, tkS]
    refine tk 28 undef rfl (.inr ⟨by rfl, rfl⟩) hS2 ?_
    simp only [Act.put, tkS]
    refine tk 29 undef rfl (.inr ⟨by rfl, rfl⟩) hS2 ?_
    simp only [Act.put, tkS]
    refine tk 30 undef rfl (.inr ⟨by rfl, rfl⟩) hS2 ?_
    simp only [Act.put, tkS]
    refine tk 31 undef rfl (.inr ⟨by rfl, rfl⟩) hS2 ?_
    simp only [Act.put, tkS]
    refine tk 32 undef rfl (.inr ⟨by rfl, rfl⟩) hS2 ?_
    simp only [Act.put, tkS]
    refine tq 33 (.bool false) rfl (fun W hW => ?_) hS2 ?_
    ·obtain ⟨z0, z1, z2, z3, z4, z5⟩ := hW; go_simp
    simp only [Act.put, tkS]
    refine tq 34 (.bool false) rfl (fun W hW => ?_) hS2 ?_
    ·obtain ⟨z0, z1, z2, z3, z4, z5⟩ := hW; go_simp
    simp only [Act.put, tkS]
    refine wpAnyH_done (by kernel_rfl) ?_ _
    have hyes : c.okAt j = true := by rw [HE2.u]; rfl
    have hok2 := J (show ∀ k, k < j + 1 → c.okAt k = true from fun k hk => (Nat.lt_succ_iff_lt_or_eq.mp hk).elim (fun h => hok.u k h) (fun h => by rw [h]; exact hyes))
    clear hok hyes HE2
    go_wp2_with fail
    refine ⟨⟨j + 1, hlt, by simp, hok2, ((hbr.alloc hbr.size _).drew).trans (hbb2.mono (Nat.le_trans hbr.size (by simp)))⟩, by simp only [intOf]; omega⟩
   | some a =>
    simp only [Option.map_some] at q3
    have q6 := HQ.u a rfl
    clear HQ
    cases b with
    | false =>
     have hbox := (G.At.made wr 142 #[.pointer (some ⟨w.heap.size, si, none⟩), .int .i64 lo, .int .i64 hi, .pointer (some ⟨w.heap.size, a, none⟩)]).drew
     have hset : ((wr.alloc (.cells #[.pointer (some ⟨w.heap.size, si, none⟩), .int .i64 lo, .int .i64 hi, .pointer (some ⟨w.heap.size, a, none⟩)] 142)).drew).cell? ⟨w.heap.size, si, none⟩ = some (.int .u64 (s : Int)) := (World.cell?_alloc_lt wr _ _ hzz).trans q4
     have hax : ((wr.alloc (.cells #[.pointer (some ⟨w.heap.size, si, none⟩), .int .i64 lo, .int .i64 hi, .pointer (some ⟨w.heap.size, a, none⟩)] 142)).drew).cell? ⟨w.heap.size, a, none⟩ = some (.bool false) := (World.cell?_alloc_lt wr _ _ hzz).trans q6
     have hall := J (fun W => all_keep lo hi (.pointer (some ⟨w.heap.size, si, none⟩)) (.pointer (some ⟨w.heap.size, a, none⟩)) W l0 l1 ⟨wr.heap.size, 0, none⟩ ⟨wr.heap.size, 1, none⟩ ⟨wr.heap.size, 2, none⟩ ⟨wr.heap.size, 3, none⟩ ⟨w.heap.size, si, none⟩ ⟨w.heap.size, a, none⟩)
     have HS0 := J (show RegS wr.heap.size w.heap.size si s lo hi (.pointer (some ⟨w.heap.size, a, none⟩)) (a) (.bool false) _ from ⟨hbox.here (i := 0) rfl, hbox.here (i := 1) rfl, hbox.here (i := 2) rfl, hbox.here (i := 3) rfl, hset, hax⟩)
     clear hbox hset hax
     go_wp2_with fail
     have hS : (RegS wr.heap.size w.heap.size si s lo hi (.pointer (some ⟨w.heap.size, a, none⟩)) (a) (.bool false)) ((wr.alloc (.cells #[.pointer (some ⟨w.heap.size, si, none⟩), .int .i64 lo, .int .i64 hi, .pointer (some ⟨w.heap.size, a, none⟩)] 142)).drew) := HS0.u
     refine wp_region_held_drew (S := (RegS wr.heap.size w.heap.size si s lo hi (.pointer (some ⟨w.heap.size, a, none⟩)) (a) (.bool false))) (by kernel_rfl) hS (fun _ => ?_)
     change wpAnyH _ _ _ _ _ 35 #[false, false, false, false, false, false, false, false, false, false, false, false, false, false, false, false, false, false, false, false, false, false, false, false, false, false, false, false, false, false, false, false, false, false, false] _ (World.drew _)
     refine tq 0 (.pointer (some ⟨wr.heap.size, 0, none⟩)) rfl (fun W hW => ?_) hS ?_
     ·obtain ⟨z0, z1, z2, z3, z4, z5⟩ := hW; go_simp
     simp only [Act.put, tkS]
     refine tq 1 (.pointer (some ⟨w.heap.size, si, none⟩)) rfl (fun W hW => ?_) hS ?_
     ·obtain ⟨z0, z1, z2, z3, z4, z5⟩ := hW; go_simp
     simp only [Act.put, tkS]
     refine tq 2 (.pointer (some ⟨w.heap.size, si, none⟩)) rfl (fun W hW => ?_) hS ?_
     ·obtain ⟨z0, z1, z2, z3, z4, z5⟩ := hW; go_simp
     simp only [Act.put, tkS]
     refine tq 3 (.int .u64 (s : Int)) rfl (fun W hW => ?_) hS ?_
     ·obtain ⟨z0, z1, z2, z3, z4, z5⟩ := hW; go_simp
     simp only [Act.put, tkS]
     refine tq 4 (.bool false) rfl (fun W hW => ?_) hS ?_
     ·obtain ⟨z0, z1, z2, z3, z4, z5⟩ := hW; go_simp
     simp only [Act.put, tkS]
     refine tq 5 (.bool false) rfl (fun W hW => ?_) hS ?_
     ·obtain ⟨z0, z1, z2, z3, z4, z5⟩ := hW; go_simp
     simp only [Act.put, tkS]
     refine tq 6 (.pointer (some ⟨wr.heap.size, 0, none⟩)) rfl (fun W hW => ?_) hS ?_
     ·obtain ⟨z0, z1, z2, z3, z4, z5⟩ := hW; go_simp
     simp only [Act.put, tkS]
     refine tq 7 (.pointer (some ⟨w.heap.size, si, none⟩)) rfl (fun W hW => ?_) hS ?_
     ·obtain ⟨z0, z1, z2, z3, z4, z5⟩ := hW; go_simp
     simp only [Act.put, tkS]
     refine tq 8 (.pointer (some ⟨w.heap.size, si, none⟩)) rfl (fun W hW => ?_) hS ?_
     ·obtain ⟨z0, z1, z2, z3, z4, z5⟩ := hW; go_simp
     simp only [Act.put, tkS]
     refine tq 9 (.int .u64 (s : Int)) rfl (fun W hW => ?_) hS ?_
     ·obtain ⟨z0, z1, z2, z3, z4, z5⟩ := hW; go_simp
     simp only [Act.put, tkS]
     refine tq 10 (.agg #[.pointer (some ⟨w.heap.size, si, none⟩), .int .i64 lo, .int .i64 hi, .pointer (some ⟨w.heap.size, a, none⟩)]) rfl (fun W hW => ?_) hS ?_
     ·obtain ⟨z0, z1, z2, z3, z4, z5⟩ := hW; go_simp
     simp only [Act.put, tkS]
     refine wpAnyH_ready (rs := [11]) (by kernel_rfl) (by simp) (AllReadyH.cons rfl (fun K hK => ?_) AllReadyH.nil)
     go_simp
     refine (hall.u _ _ _ _ _ _ _ hS.1 hS.2.1 hS.2.2.1 hS.2.2.2.1 hS.2.2.2.2.1 hS.2.2.2.2.2).mono ?_
     rintro e w2 ⟨rfl, y0, y1, y2, y3, y4, y5, hbb2⟩
     have hS2 : (RegS wr.heap.size w.heap.size si s lo hi (.pointer (some ⟨w.heap.size, a, none⟩)) (a) (.bool false)) w2 := ⟨y0, y1, y2, y3, y4, y5⟩
     clear y0 y1 y2 y3 y4 y5
     go_wp2_with fail
     refine hK.out _ _ hS2 (fun _ => ?_)
     clear hK K
     refine tq 12 (.int .u64 (bits .andNot .u64 (s : Int) (G.allN lo hi : Nat))) rfl (fun W hW => ?_) hS2 ?_
     ·obtain ⟨z0, z1, z2, z3, z4, z5⟩ := hW; go_simp
     simp only [Act.put, tkS]
     refine tq 13 (.bool false) rfl (fun W hW => ?_) hS2 ?_
     ·obtain ⟨z0, z1, z2, z3, z4, z5⟩ := hW; go_simp
     simp only [Act.put, tkS]
     refine tq 14 (.bool false) rfl (fun W hW => ?_) hS2 ?_
     ·obtain ⟨z0, z1, z2, z3, z4, z5⟩ := hW; go_simp
     simp only [Act.put, tkS]
     refine tq 15 (.bool false) rfl (fun W hW => ?_) hS2 ?_
     ·obtain ⟨z0, z1, z2, z3, z4, z5⟩ := hW; go_simp
     simp only [Act.put, tkS]
     refine tq 16 (.pointer (some ⟨wr.heap.size, 3, none⟩)) rfl (fun W hW => ?_) hS2 ?_
     ·obtain ⟨z0, z1, z2, z3, z4, z5⟩ := hW; go_simp
     simp only [Act.put, tkS]
     refine tq 17 (.pointer (some ⟨w.heap.size, a, none⟩)) rfl (fun W hW => ?_) hS2 ?_
     ·obtain ⟨z0, z1, z2, z3, z4, z5⟩ := hW; go_simp
     simp only [Act.put, tkS]
     refine tq 18 (.bool true) rfl (fun W hW => ?_) hS2 ?_
     ·obtain ⟨z0, z1, z2, z3, z4, z5⟩ := hW; go_simp
     simp only [Act.put, tkS]
     refine tq 19 (.bool true) rfl (fun W hW => ?_) hS2 ?_
     ·obtain ⟨z0, z1, z2, z3, z4, z5⟩ := hW; go_simp
     simp only [Act.put, tkS]
     refine tq 20 (.pointer (some ⟨wr.heap.size, 3, none⟩)) rfl (fun W hW => ?_) hS2 ?_
     ·obtain ⟨z0, z1, z2, z3, z4, z5⟩ := hW; go_simp
     simp only [Act.put, tkS]
     refine tq 21 (.pointer (some ⟨w.heap.size, a, none⟩)) rfl (fun W hW => ?_) hS2 ?_
     ·obtain ⟨z0, z1, z2, z3, z4, z5⟩ := hW; go_simp
     simp only [Act.put, tkS]
     refine tq 22 (.pointer (some ⟨w.heap.size, a, none⟩)) rfl (fun W hW => ?_) hS2 ?_
     ·obtain ⟨z0, z1, z2, z3, z4, z5⟩ := hW; go_simp
     simp only [Act.put, tkS]
     refine tq 23 (.bool false) rfl (fun W hW => ?_) hS2 ?_
     ·obtain ⟨z0, z1, z2, z3, z4, z5⟩ := hW; go_simp
     simp only [Act.put, tkS]
     refine tq 24 (.bool false) rfl (fun W hW => ?_) hS2 ?_
     ·obtain ⟨z0, z1, z2, z3, z4, z5⟩ := hW; go_simp
     simp only [Act.put, tkS]
     refine tq 25 (.bool false) rfl (fun W hW => ?_) hS2 ?_
     ·obtain ⟨z0, z1, z2, z3, z4, z5⟩ := hW; go_simp
     simp only [Act.put, tkS]
     refine tk 26 undef rfl (.inr ⟨by rfl, rfl⟩) hS2 ?_
     simp only [Act.put, tkS]
     refine tk 27 undef rfl (.inr ⟨by rfl, rfl⟩) hS2 ?_
     simp only [Act.put, tkS]
     refine tk 28 undef rfl (.inr ⟨by rfl, rfl⟩) hS2 ?_
     simp only [Act.put, tkS]
     refine tk 29 undef rfl (.inr ⟨by rfl, rfl⟩) hS2 ?_
     simp only [Act.put, tkS]
     refine tk 30 undef rfl (.inr ⟨by rfl, rfl⟩) hS2 ?_
     simp only [Act.put, tkS]
     refine tk 31 undef rfl (.inr ⟨by rfl, rfl⟩) hS2 ?_
     simp only [Act.put, tkS]
     refine tk 32 undef rfl (.inr ⟨by rfl, rfl⟩) hS2 ?_
     simp only [Act.put, tkS]
     refine tq 33 (.bool false) rfl (fun W hW => ?_) hS2 ?_
     ·obtain ⟨z0, z1, z2, z3, z4, z5⟩ := hW; go_simp
     simp only [Act.put, tkS]
     refine tq 34 (.bool false) rfl (fun W hW => ?_) hS2 ?_
     ·obtain ⟨z0, z1, z2, z3, z4, z5⟩ := hW; go_simp
     simp only [Act.put, tkS]
     refine wpAnyH_done (by kernel_rfl) ?_ _
     have hyes : c.okAt j = true := by rw [HE2.u]; rfl
     have hok2 := J (show ∀ k, k < j + 1 → c.okAt k = true from fun k hk => (Nat.lt_succ_iff_lt_or_eq.mp hk).elim (fun h => hok.u k h) (fun h => by rw [h]; exact hyes))
     clear hok hyes HE2
     go_wp2_with fail
     refine ⟨⟨j + 1, hlt, by simp, hok2, ((hbr.alloc hbr.size _).drew).trans (hbb2.mono (Nat.le_trans hbr.size (by simp)))⟩, by simp only [intOf]; omega⟩
    | true =>
     have hbox := (G.At.made wr 142 #[.pointer (some ⟨w.heap.size, si, none⟩), .int .i64 lo, .int .i64 hi, .pointer (some ⟨w.heap.size, a, none⟩)]).drew
     have hset : ((wr.alloc (.cells #[.pointer (some ⟨w.heap.size, si, none⟩), .int .i64 lo, .int .i64 hi, .pointer (some ⟨w.heap.size, a, none⟩)] 142)).drew).cell? ⟨w.heap.size, si, none⟩ = some (.int .u64 (s : Int)) := (World.cell?_alloc_lt wr _ _ hzz).trans q4
     have hax : ((wr.alloc (.cells #[.pointer (some ⟨w.heap.size, si, none⟩), .int .i64 lo, .int .i64 hi, .pointer (some ⟨w.heap.size, a, none⟩)] 142)).drew).cell? ⟨w.heap.size, a, none⟩ = some (.bool true) := (World.cell?_alloc_lt wr _ _ hzz).trans q6
     have hall := J (fun W => all_keep lo hi (.pointer (some ⟨w.heap.size, si, none⟩)) (.pointer (some ⟨w.heap.size, a, none⟩)) W l0 l1 ⟨wr.heap.size, 0, none⟩ ⟨wr.heap.size, 1, none⟩ ⟨wr.heap.size, 2, none⟩ ⟨wr.heap.size, 3, none⟩ ⟨w.heap.size, si, none⟩ ⟨w.heap.size, a, none⟩)
     have HS0 := J (show RegS wr.heap.size w.heap.size si s lo hi (.pointer (some ⟨w.heap.size, a, none⟩)) (a) (.bool true) _ from ⟨hbox.here (i := 0) rfl, hbox.here (i := 1) rfl, hbox.here (i := 2) rfl, hbox.here (i := 3) rfl, hset, hax⟩)
     clear hbox hset hax
     go_wp2_with fail
     have hS : (RegS wr.heap.size w.heap.size si s lo hi (.pointer (some ⟨w.heap.size, a, none⟩)) (a) (.bool true)) ((wr.alloc (.cells #[.pointer (some ⟨w.heap.size, si, none⟩), .int .i64 lo, .int .i64 hi, .pointer (some ⟨w.heap.size, a, none⟩)] 142)).drew) := HS0.u
     refine wp_region_held_drew (S := (RegS wr.heap.size w.heap.size si s lo hi (.pointer (some ⟨w.heap.size, a, none⟩)) (a) (.bool true))) (by kernel_rfl) hS (fun _ => ?_)
     change wpAnyH _ _ _ _ _ 35 #[false, false, false, false, false, false, false, false, false, false, false, false, false, false, false, false, false, false, false, false, false, false, false, false, false, false, false, false, false, false, false, false, false, false, false] _ (World.drew _)
     refine tq 0 (.pointer (some ⟨wr.heap.size, 0, none⟩)) rfl (fun W hW => ?_) hS ?_
     ·obtain ⟨z0, z1, z2, z3, z4, z5⟩ := hW; go_simp
     simp only [Act.put, tkS]
     refine tq 1 (.pointer (some ⟨w.heap.size, si, none⟩)) rfl (fun W hW => ?_) hS ?_
     ·obtain ⟨z0, z1, z2, z3, z4, z5⟩ := hW; go_simp
     simp only [Act.put, tkS]
     refine tq 2 (.pointer (some ⟨w.heap.size, si, none⟩)) rfl (fun W hW => ?_) hS ?_
     ·obtain ⟨z0, z1, z2, z3, z4, z5⟩ := hW; go_simp
     simp only [Act.put, tkS]
     refine tq 3 (.int .u64 (s : Int)) rfl (fun W hW => ?_) hS ?_
     ·obtain ⟨z0, z1, z2, z3, z4, z5⟩ := hW; go_simp
     simp only [Act.put, tkS]
     refine tq 4 (.bool false) rfl (fun W hW => ?_) hS ?_
     ·obtain ⟨z0, z1, z2, z3, z4, z5⟩ := hW; go_simp
     simp only [Act.put, tkS]
     refine tq 5 (.bool false) rfl (fun W hW => ?_) hS ?_
     ·obtain ⟨z0, z1, z2, z3, z4, z5⟩ := hW; go_simp
     simp only [Act.put, tkS]
     refine tq 6 (.pointer (some ⟨wr.heap.size, 0, none⟩)) rfl (fun W hW => ?_) hS ?_
     ·obtain ⟨z0, z1, z2, z3, z4, z5⟩ := hW; go_simp
     simp only [Act.put, tkS]
     refine tq 7 (.pointer (some ⟨w.heap.size, si, none⟩)) rfl (fun W hW => ?_) hS ?_
     ·obtain ⟨z0, z1, z2, z3, z4, z5⟩ := hW; go_simp
     simp only [Act.put, tkS]
     refine tq 8 (.pointer (some ⟨w.heap.size, si, none⟩)) rfl (fun W hW => ?_) hS ?_
     ·obtain ⟨z0, z1, z2, z3, z4, z5⟩ := hW; go_simp
     simp only [Act.put, tkS]
     refine tq 9 (.int .u64 (s : Int)) rfl (fun W hW => ?_) hS ?_
     ·obtain ⟨z0, z1, z2, z3, z4, z5⟩ := hW; go_simp
     simp only [Act.put, tkS]
     refine tq 10 (.agg #[.pointer (some ⟨w.heap.size, si, none⟩), .int .i64 lo, .int .i64 hi, .pointer (some ⟨w.heap.size, a, none⟩)]) rfl (fun W hW => ?_) hS ?_
     ·obtain ⟨z0, z1, z2, z3, z4, z5⟩ := hW; go_simp
     simp only [Act.put, tkS]
     refine wpAnyH_ready (rs := [11]) (by kernel_rfl) (by simp) (AllReadyH.cons rfl (fun K hK => ?_) AllReadyH.nil)
     go_simp
     refine (hall.u _ _ _ _ _ _ _ hS.1 hS.2.1 hS.2.2.1 hS.2.2.2.1 hS.2.2.2.2.1 hS.2.2.2.2.2).mono ?_
     rintro e w2 ⟨rfl, y0, y1, y2, y3, y4, y5, hbb2⟩
     have hS2 : (RegS wr.heap.size w.heap.size si s lo hi (.pointer (some ⟨w.heap.size, a, none⟩)) (a) (.bool true)) w2 := ⟨y0, y1, y2, y3, y4, y5⟩
     clear y0 y1 y2 y3 y4 y5
     go_wp2_with fail
     refine hK.out _ _ hS2 (fun _ => ?_)
     clear hK K
     refine tq 12 (.int .u64 (bits .andNot .u64 (s : Int) (G.allN lo hi : Nat))) rfl (fun W hW => ?_) hS2 ?_
     ·obtain ⟨z0, z1, z2, z3, z4, z5⟩ := hW; go_simp
     simp only [Act.put, tkS]
     refine tq 13 (.bool false) rfl (fun W hW => ?_) hS2 ?_
     ·obtain ⟨z0, z1, z2, z3, z4, z5⟩ := hW; go_simp
     simp only [Act.put, tkS]
     refine tq 14 (.bool false) rfl (fun W hW => ?_) hS2 ?_
     ·obtain ⟨z0, z1, z2, z3, z4, z5⟩ := hW; go_simp
     simp only [Act.put, tkS]
     refine tq 15 (.bool false) rfl (fun W hW => ?_) hS2 ?_
     ·obtain ⟨z0, z1, z2, z3, z4, z5⟩ := hW; go_simp
     simp only [Act.put, tkS]
     refine tq 16 (.pointer (some ⟨wr.heap.size, 3, none⟩)) rfl (fun W hW => ?_) hS2 ?_
     ·obtain ⟨z0, z1, z2, z3, z4, z5⟩ := hW; go_simp
     simp only [Act.put, tkS]
     refine tq 17 (.pointer (some ⟨w.heap.size, a, none⟩)) rfl (fun W hW => ?_) hS2 ?_
     ·obtain ⟨z0, z1, z2, z3, z4, z5⟩ := hW; go_simp
     simp only [Act.put, tkS]
     refine tq 18 (.bool true) rfl (fun W hW => ?_) hS2 ?_
     ·obtain ⟨z0, z1, z2, z3, z4, z5⟩ := hW; go_simp
     simp only [Act.put, tkS]
     refine tq 19 (.bool true) rfl (fun W hW => ?_) hS2 ?_
     ·obtain ⟨z0, z1, z2, z3, z4, z5⟩ := hW; go_simp
     simp only [Act.put, tkS]
     refine tq 20 (.pointer (some ⟨wr.heap.size, 3, none⟩)) rfl (fun W hW => ?_) hS2 ?_
     ·obtain ⟨z0, z1, z2, z3, z4, z5⟩ := hW; go_simp
     simp only [Act.put, tkS]
     refine tq 21 (.pointer (some ⟨w.heap.size, a, none⟩)) rfl (fun W hW => ?_) hS2 ?_
     ·obtain ⟨z0, z1, z2, z3, z4, z5⟩ := hW; go_simp
     simp only [Act.put, tkS]
     refine tq 22 (.pointer (some ⟨w.heap.size, a, none⟩)) rfl (fun W hW => ?_) hS2 ?_
     ·obtain ⟨z0, z1, z2, z3, z4, z5⟩ := hW; go_simp
     simp only [Act.put, tkS]
     refine tq 23 (.bool true) rfl (fun W hW => ?_) hS2 ?_
     ·obtain ⟨z0, z1, z2, z3, z4, z5⟩ := hW; go_simp
     simp only [Act.put, tkS]
     refine tq 24 (.bool true) rfl (fun W hW => ?_) hS2 ?_
     ·obtain ⟨z0, z1, z2, z3, z4, z5⟩ := hW; go_simp
     simp only [Act.put, tkS]
     refine tq 25 (.bool true) rfl (fun W hW => ?_) hS2 ?_
     ·obtain ⟨z0, z1, z2, z3, z4, z5⟩ := hW; go_simp
     simp only [Act.put, tkS]
     refine tq 26 (.pointer (some ⟨wr.heap.size, 0, none⟩)) rfl (fun W hW => ?_) hS2 ?_
     ·obtain ⟨z0, z1, z2, z3, z4, z5⟩ := hW; go_simp
     simp only [Act.put, tkS]
     refine tq 27 (.pointer (some ⟨w.heap.size, si, none⟩)) rfl (fun W hW => ?_) hS2 ?_
     ·obtain ⟨z0, z1, z2, z3, z4, z5⟩ := hW; go_simp
     simp only [Act.put, tkS]
     refine tq 28 (.pointer (some ⟨w.heap.size, si, none⟩)) rfl (fun W hW => ?_) hS2 ?_
     ·obtain ⟨z0, z1, z2, z3, z4, z5⟩ := hW; go_simp
     simp only [Act.put, tkS]
     refine tq 29 (.int .u64 (s : Int)) rfl (fun W hW => ?_) hS2 ?_
     ·obtain ⟨z0, z1, z2, z3, z4, z5⟩ := hW; go_simp
     simp only [Act.put, tkS]
     refine tq 30 (.agg #[.pointer (some ⟨w.heap.size, si, none⟩), .int .i64 lo, .int .i64 hi, .pointer (some ⟨w.heap.size, a, none⟩)]) rfl (fun W hW => ?_) hS2 ?_
     ·obtain ⟨z0, z1, z2, z3, z4, z5⟩ := hW; go_simp
     simp only [Act.put, tkS]
     refine wpAnyH_ready (rs := [31]) (by kernel_rfl) (by simp) (AllReadyH.cons rfl (fun K hK => ?_) AllReadyH.nil)
     go_simp
     refine (hall.u _ _ _ _ _ _ _ hS2.1 hS2.2.1 hS2.2.2.1 hS2.2.2.2.1 hS2.2.2.2.2.1 hS2.2.2.2.2.2).mono ?_
     rintro e w3 ⟨rfl, y0, y1, y2, y3, y4, y5, hbb3⟩
     have hS3 : (RegS wr.heap.size w.heap.size si s lo hi (.pointer (some ⟨w.heap.size, a, none⟩)) (a) (.bool true)) w3 := ⟨y0, y1, y2, y3, y4, y5⟩
     clear y0 y1 y2 y3 y4 y5
     go_wp2_with fail
     refine hK.out _ _ hS3 (fun _ => ?_)
     clear hK K
     refine tq 32 (.bool ((s : Int) != ((G.allN lo hi : Nat) : Int))) rfl (fun W hW => ?_) hS3 ?_
     ·obtain ⟨z0, z1, z2, z3, z4, z5⟩ := hW; go_simp
     simp only [Act.put, tkS]
     refine tq 33 (.bool ((s : Int) != ((G.allN lo hi : Nat) : Int))) rfl (fun W hW => ?_) hS3 ?_
     ·obtain ⟨z0, z1, z2, z3, z4, z5⟩ := hW; go_simp
     simp only [Act.put, tkS]
     refine tq 34 (.bool ((s : Int) != ((G.allN lo hi : Nat) : Int))) rfl (fun W hW => ?_) hS3 ?_
     ·obtain ⟨z0, z1, z2, z3, z4, z5⟩ := hW; go_simp
     simp only [Act.put, tkS]
     refine wpAnyH_done (by kernel_rfl) ?_ _
     cases hq : ((s : Int) != ((G.allN lo hi : Nat) : Int)) with
     | true =>
      have hno : c.okAt j = false := by rw [HE2.u, show ((s : Int) == ((G.allN lo hi : Nat) : Int)) = false by simpa using hq]; rfl
      have hfin := J (Cr.err_no (Cr.not_ok j hlt hno))
      clear hno HE2
      go_wp2_with fail
      go_ret
      refine ⟨ret_int hfin.u.symm, ?_⟩
      exact ((below_drewN ((hbw.trans (hbr.mono hbw.size)).alloc (Nat.le_trans hbw.size hbr.size) _) 1).trans (hbb2.mono (Nat.le_trans (Nat.le_trans hbw.size hbr.size) (by simp)))).trans (hbb3.mono (Nat.le_trans (Nat.le_trans (Nat.le_trans hbw.size hbr.size) (by simp)) hbb2.size))
     | false =>
      have hyes : c.okAt j = true := by rw [HE2.u, show ((s : Int) == ((G.allN lo hi : Nat) : Int)) = true by simpa using hq]; rfl
      have hok2 := J (show ∀ k, k < j + 1 → c.okAt k = true from fun k hk => (Nat.lt_succ_iff_lt_or_eq.mp hk).elim (fun h => hok.u k h) (fun h => by rw [h]; exact hyes))
      clear hok hyes HE2
      go_wp2_with fail
      refine ⟨⟨j + 1, hlt, by simp, hok2, (((hbr.alloc hbr.size _).drew).trans (hbb2.mono (Nat.le_trans hbr.size (by simp)))).trans (hbb3.mono (Nat.le_trans (Nat.le_trans hbr.size (by simp)) hbb2.size))⟩, by simp only [intOf]; omega⟩
  have hn' : (bits .andNot .u64 (s : Int) (G.allN lo hi : Nat) != 0) = true := by simp [hn]
  have hno : c.okAt j = false := by rw [HE.u]; unfold G.okField; rw [show (bits .andNot .u64 (s : Int) (G.allN lo hi : Nat) == 0) = false by simp [hn]]; simp
  have hfin := J (Cr.err_no (Cr.not_ok j hlt hno))
  clear hs hno hn
  have hbox := (G.At.made wr 142 #[.pointer (some ⟨w.heap.size, si, none⟩), .int .i64 lo, .int .i64 hi, (.pointer (ap.map fun a => ⟨w.heap.size, a, none⟩))]).drew
  have hset : ((wr.alloc (.cells #[.pointer (some ⟨w.heap.size, si, none⟩), .int .i64 lo, .int .i64 hi, (.pointer (ap.map fun a => ⟨w.heap.size, a, none⟩))] 142)).drew).cell? ⟨w.heap.size, si, none⟩ = some (.int .u64 (s : Int)) := (World.cell?_alloc_lt wr _ _ hzz).trans q4
  have hax : ((wr.alloc (.cells #[.pointer (some ⟨w.heap.size, si, none⟩), .int .i64 lo, .int .i64 hi, (.pointer (ap.map fun a => ⟨w.heap.size, a, none⟩))] 142)).drew).cell? ⟨w.heap.size, si, none⟩ = some (.int .u64 (s : Int)) := (World.cell?_alloc_lt wr _ _ hzz).trans q4
  have hall := J (fun W => all_keep lo hi (.pointer (some ⟨w.heap.size, si, none⟩)) ((.pointer (ap.map fun a => ⟨w.heap.size, a, none⟩))) W l0 l1 ⟨wr.heap.size, 0, none⟩ ⟨wr.heap.size, 1, none⟩ ⟨wr.heap.size, 2, none⟩ ⟨wr.heap.size, 3, none⟩ ⟨w.heap.size, si, none⟩ ⟨w.heap.size, si, none⟩)
  have HS0 := J (show RegS wr.heap.size w.heap.size si s lo hi ((.pointer (ap.map fun a => ⟨w.heap.size, a, none⟩))) (si) (.int .u64 (s : Int)) _ from ⟨hbox.here (i := 0) rfl, hbox.here (i := 1) rfl, hbox.here (i := 2) rfl, hbox.here (i := 3) rfl, hset, hax⟩)
  clear hbox hset hax
  go_wp2_with fail
  have hS : (RegS wr.heap.size w.heap.size si s lo hi ((.pointer (ap.map fun a => ⟨w.heap.size, a, none⟩))) (si) (.int .u64 (s : Int))) ((wr.alloc (.cells #[.pointer (some ⟨w.heap.size, si, none⟩), .int .i64 lo, .int .i64 hi, (.pointer (ap.map fun a => ⟨w.heap.size, a, none⟩))] 142)).drew) := HS0.u
  refine wp_region_held_drew (S := (RegS wr.heap.size w.heap.size si s lo hi ((.pointer (ap.map fun a => ⟨w.heap.size, a, none⟩))) (si) (.int .u64 (s : Int)))) (by kernel_rfl) hS (fun _ => ?_)
  change wpAnyH _ _ _ _ _ 35 #[false, false, false, false, false, false, false, false, false, false, false, false, false, false, false, false, false, false, false, false, false, false, false, false, false, false, false, false, false, false, false, false, false, false, false] _ (World.drew _)
  refine tq 0 (.pointer (some ⟨wr.heap.size, 0, none⟩)) rfl (fun W hW => ?_) hS ?_
  ·obtain ⟨z0, z1, z2, z3, z4, z5⟩ := hW; go_simp
  simp only [Act.put, tkS]
  refine tq 1 (.pointer (some ⟨w.heap.size, si, none⟩)) rfl (fun W hW => ?_) hS ?_
  ·obtain ⟨z0, z1, z2, z3, z4, z5⟩ := hW; go_simp
  simp only [Act.put, tkS]
  refine tq 2 (.pointer (some ⟨w.heap.size, si, none⟩)) rfl (fun W hW => ?_) hS ?_
  ·obtain ⟨z0, z1, z2, z3, z4, z5⟩ := hW; go_simp
  simp only [Act.put, tkS]
  refine tq 3 (.int .u64 (s : Int)) rfl (fun W hW => ?_) hS ?_
  ·obtain ⟨z0, z1, z2, z3, z4, z5⟩ := hW; go_simp
  simp only [Act.put, tkS]
  refine tq 4 (.bool false) rfl (fun W hW => ?_) hS ?_
  ·obtain ⟨z0, z1, z2, z3, z4, z5⟩ := hW; go_simp
  simp only [Act.put, tkS]
  refine tq 5 (.bool false) rfl (fun W hW => ?_) hS ?_
  ·obtain ⟨z0, z1, z2, z3, z4, z5⟩ := hW; go_simp
  simp only [Act.put, tkS]
  refine tq 6 (.pointer (some ⟨wr.heap.size, 0, none⟩)) rfl (fun W hW => ?_) hS ?_
  ·obtain ⟨z0, z1, z2, z3, z4, z5⟩ := hW; go_simp
  simp only [Act.put, tkS]
  refine tq 7 (.pointer (some ⟨w.heap.size, si, none⟩)) rfl (fun W hW => ?_) hS ?_
  ·obtain ⟨z0, z1, z2, z3, z4, z5⟩ := hW; go_simp
  simp only [Act.put, tkS]
  refine tq 8 (.pointer (some ⟨w.heap.size, si, none⟩)) rfl (fun W hW => ?_) hS ?_
  ·obtain ⟨z0, z1, z2, z3, z4, z5⟩ := hW; go_simp
  simp only [Act.put, tkS]
  refine tq 9 (.int .u64 (s : Int)) rfl (fun W hW => ?_) hS ?_
  ·obtain ⟨z0, z1, z2, z3, z4, z5⟩ := hW; go_simp
  simp only [Act.put, tkS]
  refine tq 10 (.agg #[.pointer (some ⟨w.heap.size, si, none⟩), .int .i64 lo, .int .i64 hi, (.pointer (ap.map fun a => ⟨w.heap.size, a, none⟩))]) rfl (fun W hW => ?_) hS ?_
  ·obtain ⟨z0, z1, z2, z3, z4, z5⟩ := hW; go_simp
  simp only [Act.put, tkS]
  refine wpAnyH_ready (rs := [11]) (by kernel_rfl) (by simp) (AllReadyH.cons rfl (fun K hK => ?_) AllReadyH.nil)
  go_simp
  refine (hall.u _ _ _ _ _ _ _ hS.1 hS.2.1 hS.2.2.1 hS.2.2.2.1 hS.2.2.2.2.1 hS.2.2.2.2.2).mono ?_
  rintro e w2 ⟨rfl, y0, y1, y2, y3, y4, y5, hbb2⟩
  have hS2 : (RegS wr.heap.size w.heap.size si s lo hi ((.pointer (ap.map fun a => ⟨w.heap.size, a, none⟩))) (si) (.int .u64 (s : Int))) w2 := ⟨y0, y1, y2, y3, y4, y5⟩
  clear y0 y1 y2 y3 y4 y5
  go_wp2_with fail
  refine hK.out _ _ hS2 (fun _ => ?_)
  clear hK K
  refine tq 12 (.int .u64 (bits .andNot .u64 (s : Int) (G.allN lo hi : Nat))) rfl (fun W hW => ?_) hS2 ?_
  ·obtain ⟨z0, z1, z2, z3, z4, z5⟩ := hW; go_simp
  simp only [Act.put, tkS]
  refine tq 13 (.bool true) rfl (fun W hW => ?_) hS2 ?_
  ·obtain ⟨z0, z1, z2, z3, z4, z5⟩ := hW; go_simp
  simp only [Act.put, tkS]
  refine tq 14 (.bool true) rfl (fun W hW => ?_) hS2 ?_
  ·obtain ⟨z0, z1, z2, z3, z4, z5⟩ := hW; go_simp
  simp only [Act.put, tkS]
  refine tq 15 (.bool true) rfl (fun W hW => ?_) hS2 ?_
  ·obtain ⟨z0, z1, z2, z3, z4, z5⟩ := hW; go_simp
  simp only [Act.put, tkS]
  refine tk 16 undef rfl (.inr ⟨by rfl, rfl⟩) hS2 ?_
  simp only [Act.put, tkS]
  refine tk 17 undef rfl (.inr ⟨by rfl, rfl⟩) hS2 ?_
  simp only [Act.put, tkS]
  refine tk 18 undef rfl (.inr ⟨by rfl, rfl⟩) hS2 ?_
  simp only [Act.put, tkS]
  refine tk 19 undef rfl (.inr ⟨by rfl, rfl⟩) hS2 ?_
  simp only [Act.put, tkS]
  refine tk 20 undef rfl (.inr ⟨by rfl, rfl⟩) hS2 ?_
  simp only [Act.put, tkS]
  refine tk 21 undef rfl (.inr ⟨by rfl, rfl⟩) hS2 ?_
  simp only [Act.put, tkS]
  refine tk 22 undef rfl (.inr ⟨by rfl, rfl⟩) hS2 ?_
  simp only [Act.put, tkS]
  refine tk 23 undef rfl (.inr ⟨by rfl, rfl⟩) hS2 ?_
  simp only [Act.put, tkS]
  refine tk 24 undef rfl (.inr ⟨by rfl, rfl⟩) hS2 ?_
  simp only [Act.put, tkS]
  refine tk 25 undef rfl (.inr ⟨by rfl, rfl⟩) hS2 ?_
  simp only [Act.put, tkS]
  refine tk 26 undef rfl (.inr ⟨by rfl, rfl⟩) hS2 ?_
  simp only [Act.put, tkS]
  refine tk 27 undef rfl (.inr ⟨by rfl, rfl⟩) hS2 ?_
  simp only [Act.put, tkS]
  refine tk 28 undef rfl (.inr ⟨by rfl, rfl⟩) hS2 ?_
  simp only [Act.put, tkS]
  refine tk 29 undef rfl (.inr ⟨by rfl, rfl⟩) hS2 ?_
  simp only [Act.put, tkS]
  refine tk 30 undef rfl (.inr ⟨by rfl, rfl⟩) hS2 ?_
  simp only [Act.put, tkS]
  refine tk 31 undef rfl (.inr ⟨by rfl, rfl⟩) hS2 ?_
  simp only [Act.put, tkS]
  refine tk 32 undef rfl (.inr ⟨by rfl, rfl⟩) hS2 ?_
  simp only [Act.put, tkS]
  refine tk 33 undef rfl (.inr ⟨by rfl, rfl⟩) hS2 ?_
  simp only [Act.put, tkS]
  refine tq 34 (.bool true) rfl (fun W hW => ?_) hS2 ?_
  ·obtain ⟨z0, z1, z2, z3, z4, z5⟩ := hW; go_simp
  simp only [Act.put, tkS]
  refine wpAnyH_done (by kernel_rfl) ?_ _
  go_wp2_with fail
  go_ret
  refine ⟨ret_int hfin.u.symm, ?_⟩
  exact (below_drewN ((hbw.trans (hbr.mono hbw.size)).alloc (Nat.le_trans hbw.size hbr.size) _) 1).trans (hbb2.mono (Nat.le_trans (Nat.le_trans hbw.size hbr.size) (by simp)))
 have hj5 : j = 5 := by omega
 subst hj5
 have hfin := J (Cr.err_yes (Cr.ok_of hok.u))
 clear hok
 go_wp2_with fail
 go_ret
 exact ⟨ret_int hfin.u.symm, hbw.trans (hbr.mono hbw.size)⟩
end Go.Proofs.YtoidcbpcnikejaaGreatDoor
