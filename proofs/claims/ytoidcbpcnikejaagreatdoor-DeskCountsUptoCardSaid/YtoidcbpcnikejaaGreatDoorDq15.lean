/- Parts of this claim: CrnR, RdpC, WhlM, WhlC, PrdC, PrdR, PrdS. -/
import Derived.Lib.Strings
import Derived.Test.YtoidcbpcnikejaaGreatDoorDq14
set_option linter.unusedVariables false
set_option linter.unusedSimpArgs false
set_option maxRecDepth 100000
set_option maxHeartbeats 12800000
namespace Go.Proofs.YtoidcbpcnikejaaGreatDoor
open Go.RowKit
def anyV (g : Nat) : Option Nat → Value
 | none => .pointer none
 | some j => .pointer (some ⟨g, j, none⟩)
def anyPut (an : Option Nat) (b : Bool) (c : Array Value) : Array Value := match an, b with
 | some j, true => c.setIfInBounds j (.bool true)
 | _, _ => c
def fieldV (g k : Nat) (an : Option Nat) : Array Value := #[.pointer (some ⟨g, k, none⟩), .int .i64 (G.lim k).1, .int .i64 (G.lim k).2, anyV g an]
structure RdS (w0 W : World) (g : Nat) (c : Array Value) (B : Nat) (bx : Array Value) : Prop where
 row : G.At W g 92 c
 box : G.At W B 142 bx
 chg : G.Chg (fun b => b = g) w0 W
 lo : w0.heap.size ≤ B
def FldPost (k g : Nat) (an : Option Nat) (s : ByteArray) (c : Array Value) (w : World) (e : Ending) (w' : World) : Prop := ∃ c', e = .returned (.bool (G.fieldOk (G.lim k).1 (G.lim k).2 s)) ∧ G.At w' g 92 c' ∧ G.Chg (fun b => b = g) w w' ∧ (G.fieldOk (G.lim k).1 (G.lim k).2 s = true → c' = anyPut an (s.toList == [42]) (c.setIfInBounds k (.int .u64 (G.fieldN (G.lim k).1 (G.lim k).2 s : Nat))))
theorem RdS.put {w0 W : World} {g B k : Nat} {c bx : Array Value} (h : RdS w0 W g c B bx) (u : Value) : RdS w0 (W.setCell ⟨g, k, none⟩ u) g (c.setIfInBounds k u) B bx :=
 ⟨h.row.put k u, h.box.other (fun e => h.row.apart h.box (by decide) e.symm) u, h.chg.put (.inl rfl) u, h.lo⟩
theorem all5 {w0 W : World} {g B k : Nat} {an : Option Nat} {c : Array Value} (h : RdS w0 W g c B (fieldV g k an)) : Calls Tryz.prog 109 #[.agg (fieldV g k an)] W fun e w' => e = .returned (.int .u64 (G.allN (G.lim k).1 (G.lim k).2 : Nat)) ∧ RdS w0 w' g c B (fieldV g k an) ∧
  w'.cell? ⟨B, 0, none⟩ = some (.pointer (some ⟨g, k, none⟩)) ∧ w'.cell? ⟨B, 1, none⟩ = some (.int .i64 ((G.lim k).1 : Nat)) ∧ w'.cell? ⟨B, 2, none⟩ = some (.int .i64 ((G.lim k).2 : Nat)) ∧ w'.cell? ⟨B, 3, none⟩ = some (anyV g an) ∧ w'.frozen? ⟨g, k, none⟩ = false ∧ w'.cell? ⟨g, k, none⟩ = c[k]? :=
 (cronAll (G.lim k).1 (G.lim k).2 _ _ W (G.lim_le k).1 (G.lim_le k).2).mono fun _ w' ⟨he, hb⟩ =>
  have hr : RdS w0 w' g c B (fieldV g k an) := ⟨h.row.below hb h.row.inside, h.box.below hb h.box.inside, h.chg.step_below hb h.chg.size, h.lo⟩
  ⟨he, hr, hr.box.here rfl, hr.box.here rfl, hr.box.here rfl, hr.box.here rfl, hr.row.soft k, by
   cases hc : c[k]? with
   | none => exact (cell_of_row w' g k c 92 (0, 0) hr.row).trans hc
   | some v => exact hr.row.here hc⟩
theorem RdS.below {w0 W W' : World} {g B : Nat} {c bx : Array Value} (h : RdS w0 W g c B bx) (hb : Below W.heap.size W W') : RdS w0 W' g c B bx :=
 ⟨h.row.below hb h.row.inside, h.box.below hb h.box.inside, h.chg.step_below hb h.chg.size, h.lo⟩
theorem set_set {c : Array Value} {k : Nat} {u v : Value} : (c.setIfInBounds k u).setIfInBounds k v = c.setIfInBounds k v := by
 apply Array.ext_getElem?
 intro i
 by_cases e : k = i
 ·subst e
  by_cases h : k < c.size
  ·rw [Array.getElem?_setIfInBounds_self_of_lt h, Array.getElem?_setIfInBounds_self_of_lt (by simpa using h)]
  rw [Array.getElem?_eq_none (by simp; omega), Array.getElem?_eq_none (by simp; omega)]
 rw [Array.getElem?_setIfInBounds_ne e, Array.getElem?_setIfInBounds_ne e, Array.getElem?_setIfInBounds_ne e]
theorem set_self {c : Array Value} {k : Nat} {v : Value} (h : c[k]? = some v) : c.setIfInBounds k v = c := by
 apply Array.ext_getElem?
 intro i
 by_cases e : k = i
 ·subst e
  obtain ⟨h1, h2⟩ := Array.getElem?_eq_some_iff.1 h
  rw [Array.getElem?_setIfInBounds_self_of_lt h1, h]
 rw [Array.getElem?_setIfInBounds_ne e]
structure RdRun (k g : Nat) (an : Option Nat) (s : ByteArray) (c : Array Value) (w wr : World) (q kk : Nat) : Prop where
 rds : RdS w wr g (c.setIfInBounds k (.int .u64 (G.maskN (G.itemsN (G.lim k).1 (G.lim k).2 ((G.piecesB 44 s).take kk)) : Nat))) w.heap.size (fieldV g k an)
 list : G.At wr q 9 ((G.piecesB 44 s).map Value.string).toArray
 good : ∀ p ∈ (G.piecesB 44 s).take kk, G.itemN (G.lim k).1 (G.lim k).2 p ≠ []
theorem RdRun.below {k g : Nat} {an : Option Nat} {s : ByteArray} {c : Array Value} {w wr w' : World} {q kk : Nat} (h : RdRun k g an s c w wr q kk) (hb : Below wr.heap.size wr w') : RdRun k g an s c w w' q kk :=
 ⟨h.rds.below hb, h.list.below hb h.list.inside, h.good⟩
theorem RdRun.next {k g : Nat} {an : Option Nat} {s p : ByteArray} {c : Array Value} {w wr : World} {q kk : Nat} (h : RdRun k g an s c w wr q kk) (hp : (G.piecesB 44 s)[kk]? = some p) (hn : G.itemN (G.lim k).1 (G.lim k).2 p ≠ []) :
  RdRun k g an s c w (wr.setCell ⟨g, k, none⟩ (.int .u64 (G.maskN (G.itemsN (G.lim k).1 (G.lim k).2 ((G.piecesB 44 s).take kk)) ||| G.maskN (G.itemN (G.lim k).1 (G.lim k).2 p) : Nat))) q (kk + 1) := by
 refine ⟨?_, h.list.other (fun e => h.rds.row.apart h.list (by decide) e.symm) _, ?_⟩
 ·rw [G.take_of_get hp, G.itemsN_snoc, G.maskN_append]
  have := h.rds.put (k := k) (.int .u64 (G.maskN (G.itemsN (G.lim k).1 (G.lim k).2 ((G.piecesB 44 s).take kk)) ||| G.maskN (G.itemN (G.lim k).1 (G.lim k).2 p) : Nat))
  rwa [set_set] at this
 rw [G.take_of_get hp]
 intro x hx
 rcases List.mem_append.1 hx with hx | hx
 ·exact h.good x hx
 rw [List.mem_singleton.1 hx]; exact hn
theorem cronRead (k g : Nat) (an : Option Nat) (s : ByteArray) (c : Array Value) (m : Int) (w : World) (hs : s.size ≤ 1000000) (hm : w.cell? ⟨0, 0, none⟩ = some (.int .i64 m))
  (hg : 0 ≠ g) (hA : G.At w g 92 c) (hc : c[k]? = some (.int .u64 0)) (ha : ∀ j, an = some j → ∃ b, c[j]? = some (.bool b) ∧ j ≠ k) :
  Calls Tryz.prog 73 #[.agg (fieldV g k an), .string s] w (FldPost k g an s c w) := by
 have hB := G.At.made w 142 (fieldV g k an)
 have hR : RdS w (w.alloc (.cells (fieldV g k an) 142)) g c w.heap.size (fieldV g k an) := ⟨hA.alloc _, hB, (G.Chg.refl _ _).alloc _, Nat.le_refl _⟩
 have x0 : (w.alloc (.cells (fieldV g k an) 142)).cell? ⟨w.heap.size, 0, none⟩ = some (.pointer (some ⟨g, k, none⟩)) := hB.here (i := 0) rfl
 have x1 : (w.alloc (.cells (fieldV g k an) 142)).cell? ⟨w.heap.size, 1, none⟩ = some (.int .i64 ((G.lim k).1 : Nat)) := hB.here (i := 1) rfl
 have x2 : (w.alloc (.cells (fieldV g k an) 142)).cell? ⟨w.heap.size, 2, none⟩ = some (.int .i64 ((G.lim k).2 : Nat)) := hB.here (i := 2) rfl
 have x3 : (w.alloc (.cells (fieldV g k an) 142)).cell? ⟨w.heap.size, 3, none⟩ = some (anyV g an) := hB.here (i := 3) rfl
 by_cases hst : (s.toList == [42]) = true
 ·have hss : s = G.star := by
   apply G.ba_ext
   rw [← ByteArray.toList_eq s, eq_of_beq hst]; rfl
  have hok := G.star_field k
  have HQ := J (fun (c' : Array Value) (w' : World) (h1 : G.At w' g 92 c') (h2 : G.Chg (fun b => b = g) w w') (h3 : c' = anyPut an true (c.setIfInBounds k (.int .u64 (G.allN (G.lim k).1 (G.lim k).2 : Nat)))) => (show FldPost k g an s c w (.returned (.bool true)) w' from ⟨c', by rw [hss, hok.1], h1, h2, fun _ => by rw [hst, hss, hok.2]; exact h3⟩))
  have y0 := hR.row.here hc
  have y1 := hR.row.soft k
  clear hok hss hm hs
  go_enter Tryz.func73, Tryz.ntmps73
  go_upto_region 2 with fail
  generalize w.alloc (.cells (fieldV g k an) 142) = W at *
  have hR2 : RdS w W.drew g c w.heap.size (fieldV g k an) := ⟨hR.row.drew, hR.box.drew, hR.chg.drew, hR.lo⟩
  go_region_with (go_at_call 109; refine (all5 (w0 := w) (an := an) (by assumption)).mono ?_; rintro e w1 ⟨rfl, hR1, z0, z1, z2, z3, z4, z5⟩)
  all_goals
   have HR := J (hR1.put (k := k) (.int .u64 (G.allN (G.lim k).1 (G.lim k).2 : Nat)))
   clear hR hR2 hR1 x0 x1 x2 x3 y0 y1 z0 z1 z2 z3 z4 z5 hB
   generalize w1.setCell ⟨g, k, none⟩ (.int .u64 (G.allN (G.lim k).1 (G.lim k).2 : Nat)) = W2 at HR ⊢
   cases an with
   | none =>
    have x3 : W2.cell? ⟨w.heap.size, 3, none⟩ = some (.pointer none) := HR.u.box.here (i := 3) rfl
    have HF := J (HQ.u _ W2 HR.u.row HR.u.chg rfl)
    clear HR HQ
    go_wp2_with fail
    go_ret
    exact HF.u
   | some j =>
    have x3 : W2.cell? ⟨w.heap.size, 3, none⟩ = some (.pointer (some ⟨g, j, none⟩)) := HR.u.box.here (i := 3) rfl
    obtain ⟨b, hb, hjk⟩ := ha j rfl
    have x4 : W2.cell? ⟨g, j, none⟩ = some (.bool b) := HR.u.row.here (by rw [Array.getElem?_setIfInBounds_ne (Ne.symm hjk)]; exact hb)
    have x5 := HR.u.row.soft j
    have HF := J (HQ.u _ _ (HR.u.row.put j (.bool true)) (HR.u.chg.put (.inl rfl) (.bool true)) rfl)
    clear HR HQ
    go_wp2_with fail
    go_ret
    exact HF.u
 have hst' : (s.toList == [42]) = false := by simpa using hst
 have HR := J hR
 have HS := J hs
 have HM := J hm
 have hmax := World.block_lt_of_cell? _ _ hm
 have HPS := J (fun p (hp : p ∈ G.piecesB 44 s) => (G.piecesB_le hp : p.size ≤ s.size))
 have hfew := G.piecesB_few 44 s
 clear hst hR hB hm hs x0 x1 x2 x3
 go_enter Tryz.func73, Tryz.ntmps73
 go_wp2_with fail
 refine (shlSplit 44 s m _ HS.u (((Below.refl w.heap.size w).alloc (Nat.le_refl _) (.cells (fieldV g k an) 142)).cell (p := ⟨0, 0, none⟩) hmax |>.trans HM.u)).mono ?_
 rintro e w1 ⟨rfl, rfl⟩
 have HN := J (show RdRun k g an s c w ((w.alloc (.cells (fieldV g k an) 142)).alloc (.cells ((G.piecesB 44 s).map Value.string).toArray 9)) (w.alloc (.cells (fieldV g k an) 142)).heap.size 0 from ⟨by
  have e : c.setIfInBounds k (.int .u64 (G.maskN (G.itemsN (G.lim k).1 (G.lim k).2 ((G.piecesB 44 s).take 0)) : Nat)) = c := set_self hc
  rw [e]
  exact HR.u.below ((Below.refl _ _).alloc (Nat.le_refl _) _), G.At.made _ _ _, by simp⟩)
 have hq := World.size_alloc w (.cells (fieldV g k an) 142)
 clear HR
 generalize ((w.alloc (.cells (fieldV g k an) 142)).alloc (.cells ((G.piecesB 44 s).map Value.string).toArray 9)) = W1 at HN ⊢
 generalize (w.alloc (.cells (fieldV g k an) 142)).heap.size = q at HN hq ⊢
 have HGet := J (fun kk => G.get_some (G.piecesB 44 s) (i := kk))
 obtain ⟨n, Hn⟩ : ∃ n, Hid ((G.piecesB 44 s).length = n) := ⟨_, J rfl⟩
 have hn0 := HS.u
 rw [Hn.u] at hfew ⊢
 have hn1 : (n : Int) ≤ 1000001 := by omega
 have h61 := (G.lim_le k).1; have h62 := (G.lim_le k).2
 have HC0 := J hc
 clear hq hn0 hfew hc
 go_wp2_with fail
 go_loopw [24] (fun x wr => ∃ kk : Nat, kk ≤ n ∧ x = .int .i64 kk ∧ Hid (RdRun k g an s c w wr q kk)) (fun x _ => n - (intOf x).toNat)
 case atStart => exact ⟨0, by omega, rfl, HN⟩
 clear HN
 obtain ⟨kk, hkk, rfl, HN⟩ := hrel
 have i0 : (0 : Int) ≤ (kk : Int) := by omega
 by_cases hlt : kk < n
 ·have i1 : (kk : Int) < (n : Int) := by omega
  obtain ⟨p, hp⟩ := HGet.u kk (by have := Hn.u; omega)
  have HPs := J (show p.size ≤ 1000000 by have := HPS.u p (List.mem_of_getElem? hp); have := HS.u; omega)
  have y0 : wr.cell? ⟨q, kk, none⟩ = some (.string p) := HN.u.list.here (by rw [List.getElem?_toArray, List.getElem?_map, hp]; rfl)
  have x0 : wr.cell? ⟨w.heap.size, 0, none⟩ = some (.pointer (some ⟨g, k, none⟩)) := HN.u.rds.box.here (i := 0) rfl
  have x1 : wr.cell? ⟨w.heap.size, 1, none⟩ = some (.int .i64 ((G.lim k).1 : Nat)) := HN.u.rds.box.here (i := 1) rfl
  have x2 : wr.cell? ⟨w.heap.size, 2, none⟩ = some (.int .i64 ((G.lim k).2 : Nat)) := HN.u.rds.box.here (i := 2) rfl
  have x3 : wr.cell? ⟨w.heap.size, 3, none⟩ = some (anyV g an) := HN.u.rds.box.here (i := 3) rfl
  have HP := J hp
  have HLt := J hlt
  clear hp hlt
  go_wp2_with fail
  refine (cronItem (G.lim k).1 (G.lim k).2 _ _ p m _ HPs.u (by omega) (by omega) ((World.cell?_of_block (w := w) (a := ⟨0, 0, none⟩) (HN.u.rds.chg.block _ hmax hg)).trans HM.u)).mono ?_
  rintro e w2 ⟨rfl, hb2⟩
  have HN2 := J (HN.u.below hb2)
  clear hb2 HN x0 x1 x2 x3 y0
  by_cases hnil : G.itemN (G.lim k).1 (G.lim k).2 p = []
  ·have HF := J (show FldPost k g an s c w (.returned (.bool false)) w2 from ⟨_, by rw [G.fieldOk_bad HP.u hnil], HN2.u.rds.row, HN2.u.rds.chg, fun h => by rw [G.fieldOk_bad HP.u hnil] at h; cases h⟩)
   rw [hnil, show G.maskN [] = 0 from rfl]
   clear hnil HN2
   go_wp2_with fail
   go_ret
   exact HF.u
  have HX := J (HN2.u.next HP.u hnil)
  have HM0 := J (fun h => hnil (G.maskN_zero h))
  have m1 := G.mask_items_lt (first := (G.lim k).1) (G.lim_le k).2 ((G.piecesB 44 s).take kk)
  have m2 := G.maskN_lt (ns := G.itemN (G.lim k).1 (G.lim k).2 p) (fun n hn => by have := G.itemN_in (first := ((G.lim k).1 : Int)) (by omega) n hn; omega)
  have HO := J (G.or_u64 _ _ m1 m2)
  have z0 := HN2.u.rds.row.here (i := k) (by
   obtain ⟨h1, _⟩ := Array.getElem?_eq_some_iff.1 HC0.u
   exact Array.getElem?_setIfInBounds_self_of_lt h1)
  have z1 := HN2.u.rds.row.soft k
  have x0 : w2.cell? ⟨w.heap.size, 0, none⟩ = some (.pointer (some ⟨g, k, none⟩)) := HN2.u.rds.box.here (i := 0) rfl
  have HNe := J (show ((G.maskN (G.itemN (G.lim k).1 (G.lim k).2 p) : Nat) : Int) ≠ 0 from fun e => HM0.u (by omega))
  clear hnil HN2 HM0 m1 m2
  generalize G.maskN (G.itemN (G.lim k).1 (G.lim k).2 p) = M at HX HO HNe ⊢
  generalize G.maskN (G.itemsN (G.lim k).1 (G.lim k).2 ((G.piecesB 44 s).take kk)) = M0 at HX HO z0 ⊢
  have hne := HNe.u
  rw [← HO.u] at HX
  clear HO HNe
  go_wp2_with fail
  go_roundw
  case rel => exact ⟨kk + 1, HLt.u, by go_num, HX⟩
  case measure => have := HLt.u; simp [intOf]; omega
 have hke : kk = n := by omega
 have HF := J (show FldPost k g an s c w (.returned (.bool true)) wr from by
  have h1 := HN.u.rds; have h2 := HN.u.good
  rw [hke, ← Hn.u, List.take_length] at h1 h2
  exact ⟨_, by rw [G.fieldOk_good h2], h1.row, h1.chg, fun _ => by rw [hst']; cases an <;> rfl⟩)
 have i1 : (n : Int) ≤ (kk : Int) := by omega
 clear HN hke hkk hlt
 go_wp2_with fail
 go_ret
 exact HF.u
open Go.RowKit
def PiecesPost (c : UInt8) (s : ByteArray) (w : World) (e : Ending) (w' : World) : Prop :=
 ∃ (v : Value) (ps : List ByteArray), e = .returned v ∧ ps.map (fun x : ByteArray => x.data.toList) = G.pieces c s.data.toList ∧ G.OwnRow (fun b => w.heap.size ≤ b) w' 9 1 v ps.length (ps.map Value.string) ∧ Below w.heap.size w w'
theorem info_text : (Tryz.prog.info? 9).map (fun i => (i.zero, i.size, i.bytes)) = some (some (.string ByteArray.empty), 1, 16) := by kernel_rfl
theorem info_split {i : Option TypeInfo} {z : Option Value} {s b : Nat} (h : i.map (fun i => (i.zero, i.size, i.bytes)) = some (z, s, b)) : ∃ j, i = some j ∧ j.zero = z ∧ j.size = s ∧ j.bytes = b := by
 cases i with
 | none => cases h
 | some j => simp only [Option.map_some, Option.some.injEq, Prod.mk.injEq] at h; exact ⟨j, rfl, h.1, h.2.1, h.2.2⟩
theorem append_one {p s : ByteArray} {k : Nat} {b : UInt8} (h : s.data.toList[k]? = some b) : (p ++ s.extract k (k + 1)).data.toList = p.data.toList ++ [b] := by
 rw [ByteArray.data_append, Array.toList_append, ByteArray.data_extract, Array.toList_extract]
 congr 1
 obtain ⟨h1, h2⟩ := List.getElem?_eq_some_iff.1 h
 rw [List.extract_eq_take_drop, List.drop_eq_getElem_cons h1, h2]
 simp
structure PcRun (c : UInt8) (s : ByteArray) (w wr : World) (g cap k : Nat) (ps : List ByteArray) : Prop where
 data : ps.map (fun x : ByteArray => x.data.toList) = G.pieces c (s.data.toList.take k)
 row : G.OwnRow (fun b => w.heap.size ≤ b) wr 9 1 (.slice (some ⟨g, 0, none⟩) ps.length cap) ps.length (ps.map Value.string)
 below : Below w.heap.size w wr
theorem PcRun.pos {c : UInt8} {s : ByteArray} {w wr : World} {g cap k : Nat} {ps : List ByteArray} (h : PcRun c s w wr g cap k ps) : 0 < ps.length := by
 have := congrArg List.length h.data
 rw [List.length_map] at this
 rw [this]; exact G.pieces_pos c _
theorem PcRun.few {c : UInt8} {s : ByteArray} {w wr : World} {g cap k : Nat} {ps : List ByteArray} (h : PcRun c s w wr g cap k ps) : ps.length ≤ s.size + 1 := by
 have := congrArg List.length h.data
 rw [List.length_map, G.pieces_many] at this
 have h2 := List.count_le_length (a := c) (l := s.data.toList.take k)
 rw [List.length_take, ← G.ba_size] at h2
 omega
theorem refPiecesL (c : UInt8) (s : ByteArray) (hs : s.size ≤ 3000000) (w : World) : Calls Tryz.prog 16 #[.string s, .int .u8 (c.toNat : Int)] w (PiecesPost c s w) := by
 have hs2 : (s.size : Int) ≤ 3000000 := by omega
 obtain ⟨i0', hi, hz0, hz1, hz2⟩ := info_split info_text
 have HS2 := J hs
 have HZ := J (G.ba_size s)
 have H0 := J (show PcRun c s w (w.alloc (.cells #[.string ⟨#[]⟩] 9)) w.heap.size 1 0 [⟨#[]⟩] from
  ⟨rfl, ⟨rfl, .inr ⟨w.heap.size, 1, rfl, Nat.le_refl _, Nat.le_refl _, by decide, _, G.At.made w _ _, rfl, Nat.le_refl _, rfl⟩⟩, (Below.refl _ _).alloc (Nat.le_refl _) _⟩)
 clear hs
 go_enter Tryz.func16, Tryz.ntmps16
 go_upto_region 2 with fail
 generalize w.alloc (.cells #[.string ⟨#[]⟩] 9) = W1 at H0 ⊢
 go_wp2_with fail
 go_loopw [5, 6] (fun v i wr => ∃ k : Nat, k ≤ s.size ∧ i = .int .i64 k ∧ ∃ g cap ps, v = .slice (some ⟨g, 0, none⟩) (List.length ps) cap ∧ Hid (PcRun c s w wr g cap k ps)) (fun _ i _ => s.size - (intOf i).toNat)
 case atStart => exact ⟨0, by omega, rfl, _, _, [⟨#[]⟩], rfl, H0⟩
 clear H0
 obtain ⟨k, hk, rfl, g, cap, ps, rfl, HK⟩ := hrel
 have i0 : (0 : Int) ≤ (k : Int) := by omega
 by_cases hlt : k < s.size
 ·have i1 : (k : Int) < (s.size : Int) := by omega
  obtain ⟨b, hb, hx⟩ := byte_get hlt
  have e7 := byte_at hlt
  rw [hx] at e7
  have hsn := G.pieces_snoc c b (s.data.toList.take k)
  rw [← G.take_of_get hb] at hsn
  have HSn := J hsn
  have HLt := J hlt
  have hpos := HK.u.pos
  have hfew := HK.u.few
  clear hsn
  by_cases hbc : b = c
  ·subst hbc
   rw [if_pos rfl] at HSn
   have HO := J (HK.u.row.alloc (.cells #[.string ByteArray.empty] 9))
   have HB := J (HK.u.below.alloc HK.u.below.size (.cells #[.string ByteArray.empty] 9))
   have hm3 := J (show ps.length + 1 ≤ maxLen by have := HS2.u; simp only [maxLen]; omega)
   have hm4 := J (show (ps.length + 1) * 16 ≤ 140737488355328 by have := HS2.u; omega)
   have HD := J HK.u.data
   clear HK hfew hb hx
   go_wp2_with (at_builtin; refine wpList_append_lies _ (by rfl) (.tmp 19) (.tmp 20) 23 (by rfl) 0 9 i0' (.string ByteArray.empty) 1 16 Tryz.underlying23 hi hz0 hz1 hz2 rfl (by decide) (.slice (some ⟨g, 0, none⟩) ps.length cap) _ _ rfl HO.u.owns ⟨wr.heap.size, 0, none⟩ 1 1 [.string ByteArray.empty] rfl rfl (G.new_one rfl) (by simp [Value.oneCell']) (by decide) hm3.u hm4.u (Nat.zero_le _) _ rfl ?_)
   intro b2 cap2 w5 hown hg ho hlt2
   obtain ⟨r1, r2⟩ := HO.u.app hown hg (ho.imp id (fun e => e.trans (by simp))) hlt2
   have HN := J (show PcRun b s w w5 b2 cap2 (k + 1) (ps ++ [ByteArray.empty]) from ⟨by
    rw [List.map_append, HD.u, HSn.u]; rfl, by
    rw [List.map_append, List.length_append]
    exact r1.mono (fun b _ hb => by
     have := HB.u.size
     rcases hb with hb | hb
     ·exact hb
     omega), HB.u.trans (r2.below HB.u.size (fun b hb h => by omega))⟩)
   have hL := J (show (ps ++ [ByteArray.empty]).length = ps.length + 1 by rw [List.length_append]; rfl)
   clear hown hg ho hlt2 r1 r2 HO HB HSn HD
   go_wp2_with fail
   go_roundw
   case rel => exact ⟨k + 1, HLt.u, by go_num, b2, cap2, _, by rw [hL.u], HN⟩
   case measure => have := HLt.u; simp [intOf]; omega
  rw [if_neg hbc] at HSn
  obtain ⟨p, hp⟩ : ∃ p, ps[ps.length - 1]? = some p := ⟨_, List.getElem?_eq_getElem (by omega)⟩
  obtain ⟨hcap, hcap2, hrow⟩ : ps.length ≤ cap ∧ cap ≤ maxLen ∧ G.RowIn wr g 9 (cap * 1) (ps.map Value.string) := by
   obtain ⟨g', cap', e, _, h1, h2, h3⟩ := HK.u.row.form hpos
   cases e
   exact ⟨h1, h2, h3⟩
  have hcell := hrow.cell (i := ps.length - 1) (v := .string p) (by rw [List.getElem?_map, hp]; rfl)
  have hsoft := hrow.soft (ps.length - 1)
  have hne : (b.toNat : Int) ≠ (c.toNat : Int) := fun e => hbc (UInt8.toNat_inj.1 (by exact_mod_cast e))
  have hN : (ps.length : Int) - 1 = ((ps.length - 1 : Nat) : Int) := by omega
  have n0 : (0 : Int) ≤ (ps.length : Int) - 1 := by omega
  have n1 : (ps.length : Int) - 1 < (ps.length : Int) := by omega
  have k0 : (k : Int) ≤ (k : Int) + 1 := by omega
  have k1 : (k : Int) + 1 ≤ (s.size : Int) := by omega
  have hps : p.size ≤ 3000000 := by
   have hm : p ∈ ps := List.mem_of_getElem? hp
   have h1 : p.data.toList ∈ G.pieces c (s.data.toList.take k) := by rw [← HK.u.data]; exact List.mem_map_of_mem hm
   have h2 := G.pieces_le c _ _ h1
   rw [List.length_take] at h2
   have h3 := G.ba_size p
   have h4 := HZ.u; have h5 := HS2.u
   omega
  have hes : (s.extract k (k + 1)).size ≤ 3000000 := by rw [ByteArray.size_extract]; omega
  have hadd : p.size + (s.extract k (k + 1)).size ≤ 9223372036854775807 := by omega
  have hadd2 : (p.size : Int) ≤ 8388608 := by omega
  have hadd3 : ((s.extract k (k + 1)).size : Int) ≤ 8388608 := by omega
  clear hes hps
  go_upto_region 7 with fail
  have HN := J (show PcRun c s w (wr.setCell ⟨g, ps.length - 1, none⟩ (.string (p ++ s.extract k (k + 1)))).drew g cap (k + 1) (ps.set (ps.length - 1) (p ++ s.extract k (k + 1))) from ⟨by
   have hp2 : (G.pieces c (s.data.toList.take k))[(G.pieces c (s.data.toList.take k)).length - 1]? = some p.data.toList := by
    rw [← HK.u.data, List.getElem?_map, List.length_map, hp]; rfl
   have hlen : ps.length = (G.pieces c (s.data.toList.take k)).length := by rw [← HK.u.data, List.length_map]
   rw [List.map_set, HSn.u, G.growLast_set b hp2, HK.u.data, hlen, append_one hb], by
   rw [List.length_set, List.map_set]
   exact (HK.u.row.put (by rw [List.length_map]; omega) _).drew,
   (HK.u.below.setCell (by
    obtain ⟨g', cap', e, h1, _⟩ := HK.u.row.form hpos
    cases e
    exact h1) _).drew⟩)
  have hL := J (show (ps.set (ps.length - 1) (p ++ s.extract k (k + 1))).length = ps.length from List.length_set)
  clear HK HSn hrow
  go_region
  generalize (wr.setCell ⟨g, ps.length - 1, none⟩ (.string (p ++ s.extract k (k + 1)))).drew = w5 at HN ⊢
  clear hcell hsoft hadd
  go_wp2_with fail
  go_roundw
  case rel => exact ⟨k + 1, HLt.u, by go_num, g, cap, _, by rw [hL.u], HN⟩
  case measure => have := HLt.u; simp [intOf]; omega
 have hke : k = s.size := by omega
 have HF := J (show PiecesPost c s w (.returned (.slice (some ⟨g, 0, none⟩) ps.length cap)) wr from ⟨_, ps, rfl, by
  have := HK.u.data
  rw [hke, HZ.u, List.take_length] at this; exact this, HK.u.row, HK.u.below⟩)
 have i1 : (s.size : Int) ≤ (k : Int) := by omega
 clear HK hke hk hlt
 go_wp2_with fail
 go_ret
 exact HF.u
theorem refPieces (c : UInt8) (s : ByteArray) (hs : s.size ≤ 1000000) (w : World) : Calls Tryz.prog 16 #[.string s, .int .u8 (c.toNat : Int)] w (PiecesPost c s w) := refPiecesL c s (by omega) w
end Go.Proofs.YtoidcbpcnikejaaGreatDoor
namespace G
open Go
theorem has_minus (l : List UInt8) : Lib.hasPrefix l [45] = minusL l := by
 cases l with
 | nil => rfl
 | cons b l =>
  show List.isPrefixOf [45] (b :: l) = (some b == some 45)
  rw [show List.isPrefixOf [45] (b :: l) = ((45 == b) && List.isPrefixOf [] l) from rfl]
  by_cases h : b = 45
  ·subst h; rfl
  have h1 : ((45 : UInt8) == b) = false := by simpa using fun e => h e.symm
  have h2 : (some b == some (45 : UInt8)) = false := by simpa using h
  rw [h1, h2]; rfl
theorem trim_minus (l : List UInt8) : Lib.trimPrefix l [45] = digsL l := by
 unfold Lib.trimPrefix digsL
 rw [has_minus]
 cases l <;> rfl
theorem whole_few {l : List UInt8} (h : (digsL l).length < 1 ∨ 7 < (digsL l).length) : wholeOk 7 l = false := by
 rw [wholeOk_is]
 rcases h with h | h
 ·rw [decide_eq_false (show ¬ 1 ≤ (digsL l).length by omega)]; rfl
 rw [decide_eq_false (show ¬ (digsL l).length ≤ 7 by omega), Bool.and_false]; rfl
theorem whole_nought {l : List UInt8} (h : (digsL l).head? = some 48) (h2 : 1 < (digsL l).length ∨ minusL l = true) : wholeOk 7 l = false := by
 rw [wholeOk_is, h]
 have e : (decide (1 < (digsL l).length) || minusL l) = true := by
  rcases h2 with h2 | h2
  ·rw [decide_eq_true h2]; rfl
  rw [h2, Bool.or_true]
 rw [e]
 simp
theorem whole_bad {l : List UInt8} {k : Nat} {b : UInt8} (h : (digsL l)[k]? = some b) (hb : digB b = false) : wholeOk 7 l = false := by
 rw [wholeOk_is]
 have e : (digsL l).all digB = false := by
  rw [List.all_eq_false]
  exact ⟨b, List.mem_of_getElem? h, by rw [hb]; simp⟩
 rw [e, Bool.and_false]
theorem whole_good {l : List UInt8} (h1 : 1 ≤ (digsL l).length) (h2 : (digsL l).length ≤ 7) (h3 : ¬ ((digsL l).head? = some 48 ∧ (1 < (digsL l).length ∨ minusL l = true))) (h4 : (digsL l).all digB = true) :
  wholeOk 7 l = true ∧ wholeV 7 l = if minusL l = true then -valL (digsL l) else valL (digsL l) := by
 refine ⟨?_, ?_⟩
 ·rw [wholeOk_is, decide_eq_true h1, decide_eq_true h2, h4]
  have e : ((digsL l).head? == some 48 && (decide (1 < (digsL l).length) || minusL l)) = false := by
   cases hh : ((digsL l).head? == some 48) with
   | false => rfl
   | true =>
    rw [Bool.true_and]
    cases hx : (decide (1 < (digsL l).length) || minusL l) with
    | false => rfl
    | true =>
     rw [Bool.or_eq_true, decide_eq_true_eq] at hx
     exact absurd ⟨by simpa using hh, hx⟩ h3
  rw [e]; rfl
 unfold wholeV
 rw [numL_yes h1 h2 h4]
end G
namespace Go.Proofs.YtoidcbpcnikejaaGreatDoor
open Go.RowKit
def WholePost (s : ByteArray) (w : World) (e : Ending) (w' : World) : Prop := e = .returned (.tuple #[.int .i64 (if wOk s = true then wV s else 0), .bool (wOk s)]) ∧ w = w'
theorem whole_none {s : ByteArray} {w : World} (h : wOk s = false) : WholePost s w (.returned (.tuple #[.int .i64 0, .bool false])) w := ⟨by rw [h]; rfl, rfl⟩
theorem whole_some {s : ByteArray} {w : World} {n : Int} (h : wOk s = true) (hn : wV s = n) : WholePost s w (.returned (.tuple #[.int .i64 n, .bool true])) w := ⟨by rw [h, hn]; rfl, rfl⟩
theorem head_byte {d : ByteArray} (h : 0 < d.size) : d.data.toList.head? = some 48 ↔ byteAt d 0 = 48 := by
 obtain ⟨b, hb, hx⟩ := byte_get h
 rw [List.head?_eq_getElem?, hb, hx]
 constructor
 ·intro e; cases e; rfl
 intro e; rw [show b = 48 from UInt8.toNat_inj.1 e]
theorem planNumber (s : ByteArray) (hs : s.size ≤ 1000000) (w : World) : Calls Tryz.prog 153 #[.string s] w (WholePost s w) := by
 obtain ⟨d, hd⟩ : ∃ d : ByteArray, (⟨(Lib.trimPrefix s.data.toList [45]).toArray⟩ : ByteArray) = d := ⟨_, rfl⟩
 have hdd : d.data.toList = G.digsL s.data.toList := by rw [← hd]; show (Lib.trimPrefix _ _).toArray.toList = _; rw [List.toList_toArray, G.trim_minus]
 obtain ⟨mb, hmb⟩ : ∃ mb, G.minusL s.data.toList = mb := ⟨_, rfl⟩
 have HCut := J (show ∀ W, Calls Tryz.prog 107 #[.string s, .string ⟨#[45]⟩] W fun e w' => e = .returned (.tuple #[.string d, .bool mb]) ∧ W = w' from fun W => by
  have h := Tryz.strings_CutPrefix s ⟨#[45]⟩ W
  rw [show (⟨#[45]⟩ : ByteArray).data.toList = [45] from rfl, hd, G.has_minus, hmb] at h
  exact h.mono fun _ _ q => ⟨q.1, q.2.symm⟩)
 have hsz := G.ba_size d
 rw [hdd] at hsz
 have HFew := J (fun (h : d.size < 1 ∨ 7 < d.size) => whole_none (s := s) (w := w) (G.whole_few (by rw [← hsz]; exact h)))
 have HNou := J (fun (h0 : 0 < d.size) (h : byteAt d 0 = 48) (h2 : 1 < d.size ∨ mb = true) => whole_none (s := s) (w := w) (G.whole_nought (by rw [← hdd]; exact (head_byte h0).2 h) (by rw [← hsz, hmb]; exact h2)))
 have HBad := J (fun (k : Nat) (b : UInt8) (h : d.data.toList[k]? = some b) (hb : G.digB b = false) => whole_none (s := s) (w := w) (G.whole_bad (by rw [← hdd]; exact h) hb))
 have HGood := J (fun (h1 : 1 ≤ d.size) (h2 : d.size ≤ 7) (h3 : ¬ (byteAt d 0 = 48 ∧ (1 < d.size ∨ mb = true))) (h4 : d.data.toList.all G.digB = true) => by
  obtain ⟨q1, q2⟩ := G.whole_good (l := s.data.toList) (by rw [← hsz]; exact h1) (by rw [← hsz]; exact h2) (by rw [← hsz, hmb, ← hdd, head_byte (by omega)]; exact h3) (by rw [← hdd]; exact h4)
  rw [hmb, ← hdd] at q2
  exact (whole_some (s := s) (w := w) q1 q2 : WholePost s w (.returned (.tuple #[.int .i64 (if mb = true then -G.valL d.data.toList else G.valL d.data.toList), .bool true])) w))
 have HZ := J (G.ba_size d)
 obtain ⟨q, hq⟩ : ∃ q, (!wiB (d.size : Int) 1 7 || ((byteAt d 0 == 48) && (decide (1 < d.size) || mb))) = q := ⟨_, rfl⟩
 have HQ := J hq
 have hdl : d.size ≤ 1000000 := by
  have h1 := HZ.u
  rw [hdd] at h1
  have h2 := G.ba_size s
  have : (G.digsL s.data.toList).length ≤ s.data.toList.length := by
   unfold G.digsL; split
   ·rw [List.length_tail]; omega
   exact Nat.le_refl _
  omega
 have hdl2 : (d.size : Int) ≤ 1000000 := by omega
 clear hd hdd hmb hsz hq hs hdl
 go_enter Tryz.func153, Tryz.ntmps153
 go_wp2_with fail
 refine (HCut.u _).mono ?_
 rintro e w1 ⟨rfl, rfl⟩
 clear HCut
 go_upto_region 2 with fail
 go_cut [29] (fun v wx => v = .bool q ∧ w = wx)
 case first =>
  go_wp2_with fail
  refine (planWithin (d.size : Int) 1 7 _).mono ?_
  rintro e w1 ⟨rfl, rfl⟩
  by_cases hsz : 1 ≤ d.size ∧ d.size ≤ 7
  ·have hw1 : wiB (d.size : Int) 1 7 = true := wiB_iff.2 (by omega)
   rw [hw1] at HQ ⊢
   have h0 : 0 < d.size := by omega
   have i1 : (0 : Int) < (d.size : Int) := by omega
   have e7 := byte_at h0
   by_cases hx : byteAt d 0 = 48
   ·rw [hx] at e7 HQ
    by_cases h1 : 1 < d.size
    ·have HV := J (show q = true by rw [← HQ.u, decide_eq_true h1]; rfl)
     have i2 : (1 : Int) < (d.size : Int) := by omega
     clear HQ hw1 hsz hx h1
     go_wp2_with fail
     go_meet
     exact ⟨by rw [HV.u] <;> rfl, rfl⟩
    have HV := J (show q = mb by rw [← HQ.u, decide_eq_false h1]; rfl)
    have i2 : (d.size : Int) ≤ 1 := by omega
    have i3 : decide ((1 : Int) < (d.size : Int)) = false := decide_eq_false (by omega)
    clear HQ hw1 hsz hx h1
    go_wp2_with fail
    go_meet
    exact ⟨by rw [HV.u] <;> rfl, rfl⟩
   have HV := J (show q = false by rw [← HQ.u, show (byteAt d 0 == 48) = false by simpa using hx]; rfl)
   clear HQ hw1 hsz
   generalize byteAt d 0 = x at hx e7
   have hx2 : ((x : Int) == 48) = false := by simp; omega
   clear hx
   go_wp2_with fail
   go_meet
   exact ⟨by rw [HV.u] <;> rfl, rfl⟩
  have hw1 : wiB (d.size : Int) 1 7 = false := by
   cases h : wiB (d.size : Int) 1 7
   ·rfl
   have := wiB_iff.1 h; omega
  rw [hw1] at HQ ⊢
  have HV := J (show q = true from HQ.u.symm)
  clear HQ hw1 hsz
  go_wp2_with fail
  go_meet
  exact ⟨by rw [HV.u] <;> rfl, rfl⟩
 obtain ⟨rfl, rfl⟩ := hcut
 cases q
 ·have hq := HQ.u
  simp only [Bool.or_eq_false_iff, Bool.not_eq_false'] at hq
  obtain ⟨hw, hq2⟩ := hq
  have hsz := wiB_iff.1 hw
  have HS := J (show 1 ≤ d.size ∧ d.size ≤ 7 by omega)
  have HQ2 := J (show ¬ (byteAt d 0 = 48 ∧ (1 < d.size ∨ mb = true)) from fun h => by
   rw [show (byteAt d 0 == 48) = true by simpa using h.1, Bool.true_and, Bool.or_eq_false_iff] at hq2
   rcases h.2 with h2 | h2
   ·rw [decide_eq_true h2] at hq2; cases hq2.1
   rw [h2] at hq2; cases hq2.2)
  have hd1 : (1 : Int) ≤ (d.size : Int) := hsz.1
  have hd7 : (d.size : Int) ≤ 7 := hsz.2
  clear hw hq2 hsz HQ HFew HNou
  as_aux_lemma =>
  go_wp2_with fail
  go_loop [6, 32] (fun n i => ∃ k : Nat, k ≤ d.size ∧ i = .int .i64 k ∧ n = .int .i64 (G.valL (d.data.toList.take k)) ∧ Hid ((d.data.toList.take k).all G.digB = true)) (fun _ i => d.size - (intOf i).toNat)
  case atStart => exact ⟨0, by omega, rfl, rfl, J rfl⟩
  obtain ⟨k, hk, rfl, rfl, HA⟩ := hrel
  by_cases hlt : k < d.size
  ·have i0 : (0 : Int) ≤ (k : Int) := by omega
   have i1 : (k : Int) < (d.size : Int) := by omega
   obtain ⟨b, hb, hx⟩ := byte_get hlt
   have hv := G.valL_bd k (d.data.toList.take k) (by rw [List.length_take]; have := HZ.u; omega) HA.u
   have hv2 : G.valL (d.data.toList.take k) < 10000000 := by
    have e : (10 : Int) ^ k ≤ 10 ^ 7 := by exact_mod_cast Nat.pow_le_pow_right (show 0 < 10 by decide) (show k ≤ 7 by omega)
    have : (10 : Int) ^ 7 = 10000000 := by decide
    omega
   have hv0 := hv.1
   have HNx := J (fun h1 h2 => dig_snoc hb hx h1 h2 HA.u)
   have HB1 := J (fun h => HBad.u k b hb (digB_low hx h))
   have HB2 := J (fun h => HBad.u k b hb (digB_high hx h))
   have HLt := J hlt
   clear hv hb hx HA
   have e7 := byte_at hlt
   have hxb := byteAt_bd d k
   generalize G.valL (d.data.toList.take k) = n at HNx hv0 hv2 ⊢
   generalize byteAt d k = x at HNx HB1 HB2 hxb e7 ⊢
   have x0 : (0 : Int) ≤ (x : Int) := by omega
   by_cases a1 : x < 48
   ·have HF := J (HB1.u a1)
    have a2 : (x : Int) < 48 := by omega
    clear a1 HNx HB1 HB2
    go_wp2_with fail
    go_ret2
    exact HF.u
   by_cases a2 : 57 < x
   ·have HF := J (HB2.u a2)
    have a3 : (57 : Int) < (x : Int) := by omega
    have a4 : (48 : Int) ≤ (x : Int) := by omega
    clear a1 a2 HNx HB1 HB2
    go_wp2_with fail
    go_ret2
    exact HF.u
   have HN := J (HNx.u (by omega) (by omega))
   have a3 : (x : Int) ≤ 57 := by omega
   have a4 : (48 : Int) ≤ (x : Int) := by omega
   have q1 : IntKind.u8.wrap ((x : Int) - 48) = (x : Int) - 48 := u8_in _ (by omega) (by omega)
   have q2 : IntKind.i64.wrap ((x : Int) - 48) = (x : Int) - 48 := IntWalk.i64_in _ (by omega)
   have q3 : IntKind.i64.wrap (10 * n) = 10 * n := IntWalk.i64_in _ (by omega)
   have q4 : IntKind.i64.wrap (10 * n + ((x : Int) - 48)) = 10 * n + ((x : Int) - 48) := IntWalk.i64_in _ (by omega)
   clear a1 a2 HNx HB1 HB2
   go_wp2_with fail
   go_round
   case rel => exact ⟨k + 1, by have := HLt.u; omega, by go_num, by rw [HN.u.2], J HN.u.1⟩
   case measure => have := HLt.u; simp [intOf]; omega
  have hke : k = d.size := by omega
  subst hke
  have e : d.data.toList.take d.size = d.data.toList := by rw [HZ.u, List.take_length]
  have h3 := HA.u
  rw [e] at h3 ⊢
  have hv := G.valL_bd d.data.toList.length d.data.toList rfl h3
  have hv2 : G.valL d.data.toList < 10000000 := by
   have e2 : (10 : Int) ^ d.data.toList.length ≤ 10 ^ 7 := by exact_mod_cast Nat.pow_le_pow_right (show 0 < 10 by decide) (show d.data.toList.length ≤ 7 by have := HZ.u; have := HS.u; omega)
   have : (10 : Int) ^ 7 = 10000000 := by decide
   omega
  have hv0 := hv.1
  have HF := J (HGood.u HS.u.1 HS.u.2 HQ2.u h3)
  clear hv h3 e hlt hk HA
  generalize G.valL d.data.toList = n at hv0 hv2 HF ⊢
  have q1 : IntKind.i64.wrap (-n) = -n := IntWalk.i64_in _ (by omega)
  cases mb
  ·go_wp2_with fail
   go_ret2
   exact HF.u
  go_wp2_with fail
  go_ret2
  exact HF.u
 have HF := J (show WholePost s w (.returned (.tuple #[.int .i64 0, .bool false])) w by
  have hq := HQ.u
  by_cases hsz : d.size < 1 ∨ 7 < d.size
  ·exact HFew.u hsz
  rw [show wiB (d.size : Int) 1 7 = true from wiB_iff.2 (by omega)] at hq
  simp only [Bool.not_true, Bool.false_or, Bool.and_eq_true, Bool.or_eq_true, decide_eq_true_eq, beq_iff_eq] at hq
  exact HNou.u (by omega) hq.1 hq.2)
 clear HQ HFew HNou
 go_wp2_with fail
 go_ret2
 exact HF.u
open Go.RowKit
theorem chg_cell {S : Nat → Prop} {w w' : World} (h : G.Chg S w w') {b : Nat} (hb : b < w.heap.size) (hs : ¬ S b) (o : Nat) : w'.cell? ⟨b, o, none⟩ = w.cell? ⟨b, o, none⟩ := by
 unfold World.cell?
 show (match w'.heap[b]? with | _ => _) = (match w.heap[b]? with | _ => _)
 rw [h.block b hb hs]
structure WdsAt (w : World) (b off : Nat) (ws : List ByteArray) : Prop where
 cell : ∀ i x, ws[i]? = some x → w.cell? ⟨b, off + i, none⟩ = some (.string x)
 lt : b < w.heap.size
theorem WdsAt.chg {C : Nat → Prop} {w w' : World} {b off : Nat} {ws : List ByteArray} (h : WdsAt w b off ws) (hc : G.Chg C w w') (hs : ¬ C b) : WdsAt w' b off ws :=
 ⟨fun i x hi => by
  exact (chg_cell hc h.lt hs _).trans (h.cell i x hi), Nat.lt_of_lt_of_le h.lt hc.size⟩
theorem WdsAt.below {w w' : World} {b off : Nat} {ws : List ByteArray} (h : WdsAt w b off ws) (hb : Below w.heap.size w w') : WdsAt w' b off ws :=
 h.chg (C := fun _ => False) (G.Chg.of_below hb (Nat.le_refl _)) (fun h => h)
theorem WdsAt.drop {w : World} {b off : Nat} {ws : List ByteArray} (h : WdsAt w b off ws) (k : Nat) : WdsAt w b (off + k) (ws.drop k) :=
 ⟨fun i x hi => by rw [List.getElem?_drop] at hi; have := h.cell _ x hi; rwa [← Nat.add_assoc] at this, h.lt⟩
theorem WdsAt.take {w : World} {b off : Nat} {ws : List ByteArray} (h : WdsAt w b off ws) (k : Nat) : WdsAt w b off (ws.take k) := by
 refine ⟨fun i x hi => ?_, h.lt⟩
 rw [List.getElem?_take] at hi
 split at hi
 ·exact h.cell i x hi
 cases hi
theorem WdsAt.of_at {w : World} {b : Nat} {T : TypeId} {ws : List ByteArray} (h : G.At w b T (ws.map Value.string).toArray) : WdsAt w b 0 ws :=
 ⟨fun i x hi => by rw [Nat.zero_add]; exact h.here (by rw [List.getElem?_toArray, List.getElem?_map, hi]; rfl), h.inside⟩
def setK (cs : Array Value) (os : List Nat) (ws : List ByteArray) : Nat → Array Value
 | 0 => cs
 | k + 1 => (setK cs os ws k).setIfInBounds (os.getD k 0) (.int .i64 (wV (G.pieceAt ws k)))
theorem setK_size (cs : Array Value) (os : List Nat) (ws : List ByteArray) : ∀ k, (setK cs os ws k).size = cs.size
 | 0 => rfl
 | k + 1 => by unfold setK; rw [Array.size_setIfInBounds]; exact setK_size cs os ws k
def ptrs (g : Nat) (os : List Nat) : Array Value := (os.map fun o => Value.pointer (some ⟨g, o, none⟩)).toArray
def NumsPost (w : World) (g : Nat) (T : TypeId) (cs : Array Value) (os : List Nat) (ws : List ByteArray) (e : Ending) (w' : World) : Prop :=
 e = .returned (.bool (wordsOk ws os.length)) ∧ (∃ k, k ≤ os.length ∧ G.At w' g T (setK cs os ws k) ∧ (wordsOk ws os.length = true → k = os.length)) ∧ G.Chg (fun b => b = g) w w'
def firstOk (ws : List ByteArray) (k : Nat) : Prop := ∀ i x, i < k → ws[i]? = some x → wOk x = true
theorem words_all {ws : List ByteArray} {n : Nat} (hn : ws.length = n) (h : firstOk ws n) : wordsOk ws n = true := by
 unfold wordsOk
 rw [decide_eq_true hn, Bool.true_and, List.all_eq_true]
 intro x hx
 obtain ⟨i, hi⟩ := List.mem_iff_getElem?.1 hx
 exact h i x (by have := G.get_lt hi; omega) hi
theorem words_bad {ws : List ByteArray} {n i : Nat} {x : ByteArray} (h : ws[i]? = some x) (hx : wOk x = false) : wordsOk ws n = false := by
 unfold wordsOk
 have : ws.all wOk = false := by rw [List.all_eq_false]; exact ⟨x, List.mem_of_getElem? h, by rw [hx]; simp⟩
 rw [this, Bool.and_false]
theorem words_few {ws : List ByteArray} {n : Nat} (h : ws.length ≠ n) : wordsOk ws n = false := by unfold wordsOk; rw [decide_eq_false h]; rfl
theorem firstOk_next {ws : List ByteArray} {k : Nat} {x : ByteArray} (h : firstOk ws k) (hk : ws[k]? = some x) (hx : wOk x = true) : firstOk ws (k + 1) := fun i y hi hy => by
 rcases Nat.lt_succ_iff_lt_or_eq.mp hi with h1 | h1
 ·exact h i y h1 hy
 subst h1; rw [hk] at hy; cases hy; exact hx
open Go.RowKit
theorem same_words (x y : ByteArray) : (x.toList == y.toList) = decide (x = y) := by
 by_cases h : x = y
 ·subst h; simp
 rw [decide_eq_false h]
 have : x.toList ≠ y.toList := fun e => h (G.ba_ext (by rw [← ByteArray.toList_eq x, ← ByteArray.toList_eq y]; exact e))
 simpa using this
structure NumsAt (w wr : World) (g : Nat) (T : TypeId) (cs : Array Value) (os : List Nat) (ws : List ByteArray) (k : Nat) : Prop where
 at_ : G.At wr g T (setK cs os ws k)
 chg : G.Chg (fun b => b = g) w wr
 ok : firstOk ws k
theorem planRead (ws : List ByteArray) (os : List Nat) (bw off cap bt capt g : Nat) (T : TypeId) (cs : Array Value) (w : World) (hw : WdsAt w bw off ws) (hp : G.At w bt 208 (ptrs g os)) (hg : G.At w g T cs) (ho : ∀ o ∈ os, o < cs.size) (n1 : bw ≠ g) (n2 : bt ≠ g) (hs : ∀ x ∈ ws, x.size ≤ 1000000) (hl : os.length ≤ 8) (hwl : ws.length ≤ 1000001) :
  Calls Tryz.prog 116 #[.slice (some ⟨bw, off, none⟩) ws.length cap, .slice (some ⟨bt, 0, none⟩) os.length capt] w (NumsPost w g T cs os ws) := by
 have hwl2 : (ws.length : Int) ≤ 1000001 := by omega
 have hl2 : (os.length : Int) ≤ 8 := by omega
 by_cases hn : ws.length = os.length
 ·have HN := J (fun x (hx : x ∈ ws) (W : World) => planNumber x (hs x hx) W)
  have H0 := J (show NumsAt w w g T cs os ws 0 from ⟨hg, G.Chg.refl _ _, fun i x hi => by omega⟩)
  have HO := J ho
  have HWc := J (fun (W : World) (hc : G.Chg (fun b => b = g) w W) => hw.chg hc n1)
  have HPc := J (fun (W : World) (hc : G.Chg (fun b => b = g) w W) => hp.chg hc n2)
  have HEq := J hn
  have hnb : ((ws.length : Int) != (os.length : Int)) = false := by rw [hn]; simp
  clear hw hp hg ho n1 n2 hs hn hwl hl
  go_enter Tryz.func116, Tryz.ntmps116
  go_wp2_with fail
  go_loopw [16] (fun i wr => ∃ k : Nat, k ≤ ws.length ∧ i = .int .i64 k ∧ Hid (NumsAt w wr g T cs os ws k)) (fun i _ => ws.length - (intOf i).toNat)
  case atStart => exact ⟨0, Nat.zero_le _, rfl, H0⟩
  clear H0
  obtain ⟨k, hk, rfl, HK⟩ := hrel
  by_cases hlt : k < ws.length
  ·obtain ⟨x, hx⟩ := G.get_some ws hlt
   obtain ⟨o, hoo⟩ := G.get_some os (show k < os.length by have := HEq.u; omega)
   have k0 : (0 : Int) ≤ (k : Int) := by omega
   have k1 : (k : Int) < (ws.length : Int) := by omega
   have k2 : (k : Int) < (os.length : Int) := by have := HEq.u; omega
   have c0 : wr.cell? ⟨bw, off + k, none⟩ = some (.string x) := (HWc.u _ HK.u.chg).cell k x hx
   have c1 : wr.cell? ⟨bt, k, none⟩ = some (.pointer (some ⟨g, o, none⟩)) := (HPc.u _ HK.u.chg).here (by unfold ptrs; rw [List.getElem?_toArray, List.getElem?_map, hoo]; rfl)
   have hos := HO.u o (List.mem_of_getElem? hoo)
   obtain ⟨u, hu⟩ : ∃ u, (setK cs os ws k)[o]? = some u := ⟨_, Array.getElem?_eq_getElem (by rw [setK_size]; exact hos)⟩
   have c2 := HK.u.at_.here hu
   have p2 := HK.u.at_.soft o
   have HNx := J (HN.u x (List.mem_of_getElem? hx) wr)
   have HEx := J (show (setK cs os ws k).setIfInBounds o (.int .i64 (wV x)) = setK cs os ws (k + 1) by
    show _ = (setK cs os ws k).setIfInBounds (os.getD k 0) (.int .i64 (wV (G.pieceAt ws k)))
    rw [G.pieceAt_get hx, List.getD_eq_getElem?_getD, hoo]; rfl)
   have HLt := J hlt
   have HXk := J hx
   clear hlt hx hoo hos hu
   cases hok : wOk x
   ·have HF := J (show NumsPost w g T cs os ws (.returned (.bool false)) wr from ⟨by rw [words_bad HXk.u hok], ⟨k, by have := HEq.u; have := HLt.u; omega, HK.u.at_, fun h => by rw [words_bad HXk.u hok] at h; cases h⟩, HK.u.chg⟩)
    unfold WholePost at HNx
    rw [hok] at HNx
    clear HEx HK hok c1 c2 p2
    go_wp2_with fail
    refine HNx.u.mono ?_
    rintro e w1 ⟨rfl, rfl⟩
    go_wp2_with fail
    go_ret
    exact HF.u
   have HNn := J (show NumsAt w (wr.setCell ⟨g, o, none⟩ (.int .i64 (wV x))) g T cs os ws (k + 1) from ⟨by
    have := HK.u.at_.put o (.int .i64 (wV x))
    rw [HEx.u] at this; exact this, HK.u.chg.put (p := ⟨g, o, none⟩) (.inl rfl) _, firstOk_next HK.u.ok HXk.u hok⟩)
   unfold WholePost at HNx
   rw [hok] at HNx
   clear HEx HK hok
   generalize wV x = V at HNx HNn
   go_wp2_with fail
   refine HNx.u.mono ?_
   rintro e w1 ⟨rfl, rfl⟩
   go_wp2_with fail
   go_roundw
   case rel => exact ⟨k + 1, by have := HLt.u; omega, by go_num, HNn⟩
   case measure => have := HLt.u; simp [intOf]; omega
  have hke : k = ws.length := by omega
  have HF := J (show NumsPost w g T cs os ws (.returned (.bool true)) wr from ⟨by rw [words_all HEq.u (by rw [← HEq.u, ← hke]; exact HK.u.ok)], ⟨k, by have := HEq.u; omega, HK.u.at_, fun _ => by have := HEq.u; omega⟩, HK.u.chg⟩)
  clear HK hlt hk
  subst hke
  go_wp2_with fail
  go_ret
  exact HF.u
 have HF := J (show NumsPost w g T cs os ws (.returned (.bool false)) w from ⟨by rw [words_few hn], ⟨0, Nat.zero_le _, hg, fun h => by rw [words_few hn] at h; cases h⟩, G.Chg.refl _ _⟩)
 have hnb : ((ws.length : Int) != (os.length : Int)) = true := by simp; omega
 clear hw hp hg ho n1 n2 hs hn hwl hl
 go_enter Tryz.func116, Tryz.ntmps116
 go_wp2_with fail
 go_ret
 exact HF.u
def LinePost (w : World) (g : Nat) (s : ByteArray) (at_ : Int) (e : Ending) (w' : World) : Prop :=
 ∃ bw, e = .returned (.tuple #[.slice (some ⟨bw, 0, none⟩) (wordsOf s).length (wordsOf s).length, .bool (G.cutZ 10 s)]) ∧ WdsAt w' bw 0 (wordsOf s) ∧ w.heap.size ≤ bw ∧ G.At w' g 146 #[.string (G.cutY 10 s), .int .i64 (at_ + 1)] ∧ G.Chg (fun b => b = g) w w'
theorem lineCut (s : ByteArray) (m : Int) (w : World) (hs : s.size ≤ 1000000) (hm : w.cell? ⟨0, 0, none⟩ = some (.int .i64 m)) :
  Calls Tryz.prog 150 #[.string s, .string ⟨#[10]⟩] w fun e w' => e = .returned (.tuple #[.string (G.cutX 10 s), .string (G.cutY 10 s), .bool (G.cutZ 10 s)]) ∧ Below w.heap.size w w' := shlCut 10 s m w hs hm
theorem readerLine (g : Nat) (s : ByteArray) (at_ m : Int) (w : World) (h : G.At w g 146 #[.string s, .int .i64 at_]) (hs : s.size ≤ 1000000) (a0 : 0 ≤ at_) (a1 : at_ ≤ 1000000) (hm : w.cell? ⟨0, 0, none⟩ = some (.int .i64 m)) (hgm : 0 ≠ g) :
  Calls Tryz.prog 114 #[.pointer (some ⟨g, 0, none⟩)] w (LinePost w g s at_) := by
 have c0 := h.here (i := 0) rfl
 have HC := J (lineCut s m w hs hm)
 have hml := World.block_lt_of_cell? _ _ hm
 have HH := J h; have HM := J hm
 have hx := G.cutX_size 10 s
 have HSz := J (show (G.cutX 10 s).size ≤ 1000000 by omega)
 have HWo := J (show G.piecesB 32 (G.cutX 10 s) = wordsOf s from rfl)
 have HFin := J (fun (W2 : World) (h2 : G.At W2 g 146 #[.string (G.cutY 10 s), .int .i64 (at_ + 1)]) (hc : G.Chg (fun b => b = g) w W2) => (show LinePost w g s at_ (.returned (.tuple #[.slice (some ⟨W2.heap.size, 0, none⟩) (wordsOf s).length (wordsOf s).length, .bool (G.cutZ 10 s)])) (W2.alloc (.cells ((wordsOf s).map Value.string).toArray 9)) from ⟨W2.heap.size, rfl, WdsAt.of_at (G.At.made _ _ _), hc.size, h2.alloc _, hc.alloc _⟩))
 generalize G.cutX 10 s = X at HC HSz HWo
 generalize wordsOf s = ws at HWo HFin
 clear h hm hs hx
 go_enter Tryz.func114, Tryz.ntmps114
 go_wp2_with fail
 refine HC.u.mono ?_
 rintro e w1 ⟨rfl, hb1⟩
 have H1 := J (HH.u.below hb1 HH.u.inside)
 have HC1 := J (G.Chg.of_below (S := fun b => b = g) hb1 (Nat.le_refl _))
 clear hb1 c0 HC HH
 have c0 := H1.u.here (i := 0) rfl
 have c1 := H1.u.here (i := 1) rfl
 have p0 := H1.u.soft 0
 have p1 := H1.u.soft 1
 have H2 := J ((H1.u.put 1 (.int .i64 (at_ + 1))).put 0 (.string (G.cutY 10 s)))
 have HC2 := J ((HC1.u.put (p := ⟨g, 1, none⟩) (.inl rfl) (.int .i64 (at_ + 1))).put (p := ⟨g, 0, none⟩) (.inl rfl) (.string (G.cutY 10 s)))
 have HM2 := J ((chg_cell HC2.u hml hgm 0).trans HM.u)
 go_upto_region 4 with fail
 clear c0 c1 p0 p1 H1 HC1
 generalize (w1.setCell ⟨g, 1, none⟩ (.int .i64 (at_ + 1))).setCell ⟨g, 0, none⟩ (.string (G.cutY 10 s)) = W2 at H2 HC2 HM2 ⊢
 have HS := J (shlSplit 32 X m W2 HSz.u HM2.u)
 rw [HWo.u] at HS
 go_wp2_with fail
 refine HS.u.mono ?_
 rintro e w3 ⟨rfl, rfl⟩
 have HF := J (HFin.u W2 H2.u HC2.u)
 clear HS
 go_wp2_with fail
 go_ret2
 exact HF.u
open Go.RowKit
def RowPost (word : ByteArray) (w : World) (g : Nat) (s : ByteArray) (at_ : Int) (gp : Nat) (T : TypeId) (cs : Array Value) (os : List Nat) (e : Ending) (w' : World) : Prop :=
 e = .returned (.bool (G.cutZ 10 s && rowOk word (wordsOf s))) ∧ G.At w' g 146 #[.string (G.cutY 10 s), .int .i64 (at_ + 1)] ∧ (∃ k, k ≤ 4 ∧ G.At w' gp T (setK cs os ((wordsOf s).drop 1) k) ∧ ((G.cutZ 10 s && rowOk word (wordsOf s)) = true → k = 4)) ∧ G.Chg (fun b => b = g ∨ b = gp) w w'
theorem words_len (s : ByteArray) (hs : s.size ≤ 1000000) : 1 ≤ (wordsOf s).length ∧ (wordsOf s).length ≤ 1000001 ∧ ∀ x ∈ wordsOf s, x.size ≤ 1000000 := by
 have h1 := G.cutX_size 10 s
 refine ⟨G.piecesB_pos 32 _, ?_, fun x hx => ?_⟩
 ·have := G.piecesB_few 32 (G.cutX 10 s)
  show (G.piecesB 32 (G.cutX 10 s)).length ≤ _
  omega
 have := G.piecesB_le (show x ∈ G.piecesB 32 (G.cutX 10 s) from hx); omega
theorem readerRow (word : ByteArray) (g : Nat) (s : ByteArray) (at_ m : Int) (gp bt capt : Nat) (T : TypeId) (cs : Array Value) (os : List Nat) (w : World) (h : G.At w g 146 #[.string s, .int .i64 at_]) (hs : s.size ≤ 1000000) (a0 : 0 ≤ at_) (a1 : at_ ≤ 1000000) (hm : w.cell? ⟨0, 0, none⟩ = some (.int .i64 m)) (hgm : 0 ≠ g)
  (hp : G.At w bt 208 (ptrs gp os)) (hg : G.At w gp T cs) (hos : os.length = 4) (ho : ∀ o ∈ os, o < cs.size) (n1 : gp ≠ g) (n2 : bt ≠ g) (n3 : bt ≠ gp) :
  Calls Tryz.prog 117 #[.pointer (some ⟨g, 0, none⟩), .string word, .slice (some ⟨bt, 0, none⟩) 4 capt] w (RowPost word w g s at_ gp T cs os) := by
 obtain ⟨l0, l1, l2⟩ := words_len s hs
 have HW := J l2
 have HLn := J (readerLine g s at_ m w h hs a0 a1 hm hgm)
 have HGp := J hg
 have HPt := J hp
 have hgl := hg.inside
 have HRd0 := J (fun (bw : Nat) (W : World) (hb : w.heap.size ≤ bw) (hl1 : (wordsOf s).length = 1) (hw : WdsAt W bw 0 (wordsOf s)) (hc : G.Chg (fun b => b = g) w W) => (by
  have e : (wordsOf s).drop 1 = [] := List.drop_eq_nil_of_le (by omega)
  rw [e]
  have := planRead [] os bw 0 0 bt capt gp T cs W (hw.take 0) (hp.chg hc n2) (hg.chg hc n1) ho (by omega) n3 (fun x hx => by cases hx) (by omega) (by simp)
  rw [hos] at this
  exact this : Calls Tryz.prog 116 #[.slice (some ⟨bw, 0, none⟩) 0 0, .slice (some ⟨bt, 0, none⟩) 4 capt] W (NumsPost W gp T cs os ((wordsOf s).drop 1))))
 have HRd := J (fun (bw : Nat) (W : World) (hb : w.heap.size ≤ bw) (hw : WdsAt W bw 0 (wordsOf s)) (hc : G.Chg (fun b => b = g) w W) => (by
  have := planRead ((wordsOf s).drop 1) os bw 1 ((wordsOf s).length - 1) bt capt gp T cs W (by have := hw.drop 1; rwa [Nat.zero_add] at this) (hp.chg hc n2) (hg.chg hc n1) ho (by omega) n3 (fun x hx => l2 x (List.mem_of_mem_drop hx)) (by omega) (by rw [List.length_drop]; omega)
  rw [List.length_drop, hos] at this
  exact this : Calls Tryz.prog 116 #[.slice (some ⟨bw, 1, none⟩) ((wordsOf s).length - 1) ((wordsOf s).length - 1), .slice (some ⟨bt, 0, none⟩) 4 capt] W (NumsPost W gp T cs os ((wordsOf s).drop 1))))
 obtain ⟨x, hx⟩ := G.get_some (wordsOf s) (show 0 < (wordsOf s).length by omega)
 have hpx := G.pieceAt_get hx
 have HX := J hx
 have HRow := J (show rowOk word (wordsOf s) = (decide (x = word) && wordsOk ((wordsOf s).drop 1) 4) by unfold rowOk; rw [hpx])
 have HFin := J (fun (b : Bool) (k : Nat) (W : World) (hb : (G.cutZ 10 s && rowOk word (wordsOf s)) = b) (hk : k ≤ 4) (h1 : G.At W g 146 #[.string (G.cutY 10 s), .int .i64 (at_ + 1)]) (h2 : G.At W gp T (setK cs os ((wordsOf s).drop 1) k)) (h3 : b = true → k = 4) (h4 : G.Chg (fun b => b = g ∨ b = gp) w W) =>
  (show RowPost word w g s at_ gp T cs os (.returned (.bool b)) W from ⟨by rw [hb], h1, ⟨k, hk, h2, fun h => h3 (hb.symm.trans h)⟩, h4⟩))
 have HOs := J hos
 clear h hs a0 a1 hm hgm hp hg hos ho n2 l2 hx hpx
 obtain ⟨n, hn⟩ : ∃ n, (wordsOf s).length = n := ⟨_, rfl⟩
 unfold LinePost at HLn
 rw [hn] at HRd HRd0 HLn l0 l1
 have i0 : (1 : Int) ≤ (n : Int) := by omega
 have i1 : (n : Int) ≤ 1000001 := by omega
 have i2 : (0 : Int) < (n : Int) := by omega
 clear hn
 go_enter Tryz.func117, Tryz.ntmps117
 go_wp2_with fail
 refine HLn.u.mono ?_
 rintro e w1 ⟨bw, rfl, hw1, hbw, hr1, hc1⟩
 have c0 : w1.cell? ⟨bw, 0, none⟩ = some (.string x) := hw1.cell 0 x HX.u
 have HR := J (HRd.u bw w1 hbw hw1 hc1)
 have HR0 := J (fun h => HRd0.u bw w1 hbw h hw1 hc1)
 have HRr := J hr1
 have HC1 := J (hc1.mono (fun b _ hb => (Or.inl hb : b = g ∨ b = gp)))
 have HG1 := J (HGp.u.chg hc1 n1)
 clear hw1 hbw hr1 hc1 HLn HRd HRd0 HGp HPt
 cases hz : G.cutZ 10 s
 ·have HF := J (HFin.u false 0 w1 (by rw [hz]; rfl) (by omega) HRr.u HG1.u (by simp) HC1.u)
  clear HR HR0 hz
  go_wp2_with fail
  go_ret
  exact HF.u
 by_cases hxw : x = word
 ·have e1 : (x.toList == word.toList) = true := by rw [same_words]; exact decide_eq_true hxw
  have HFin2 := J (fun (b : Bool) (k : Nat) (W : World) (hb : wordsOk ((wordsOf s).drop 1) 4 = b) (hk : k ≤ 4) h1 h2 h3 h4 => HFin.u b k W (by rw [hz, HRow.u, decide_eq_true hxw]; exact hb) hk h1 h2 h3 h4)
  clear hz hxw HFin
  by_cases hn1 : n = 1
  ·subst hn1
   have HRz := J (HR0.u rfl)
   clear l0 l1 i0 i1 i2
   go_wp2_with fail
   refine HRz.u.mono ?_
   rintro e w2 ⟨rfl, ⟨k, hk, hat, hkk⟩, hc2⟩
   rw [HOs.u] at hk hkk ⊢
   have HF := J (HFin2.u _ k w2 rfl hk (HRr.u.chg hc2 (fun e => n1 e.symm)) hat hkk (HC1.u.trans (hc2.mono fun b _ hb => Or.inr hb)))
   clear hk hat hkk hc2 HR HR0
   generalize wordsOk ((wordsOf s).drop 1) 4 = q at HF ⊢
   cases q
   ·go_wp2_with fail
    go_ret
    exact HF.u
   go_wp2_with fail
   go_ret
   exact HF.u
  have i4 : (1 : Int) < (n : Int) := by omega
  have i5 : 1 < n := by omega
  clear hn1 l0 l1 HR0
  have HR0 := i5
  go_wp2_with fail
  refine HR.u.mono ?_
  rintro e w2 ⟨rfl, ⟨k, hk, hat, hkk⟩, hc2⟩
  rw [HOs.u] at hk hkk ⊢
  have HF := J (HFin2.u _ k w2 rfl hk (HRr.u.chg hc2 (fun e => n1 e.symm)) hat hkk (HC1.u.trans (hc2.mono fun b _ hb => Or.inr hb)))
  clear hk hat hkk hc2 HR HR0
  generalize wordsOk ((wordsOf s).drop 1) 4 = q at HF ⊢
  cases q
  ·go_wp2_with fail
   go_ret
   exact HF.u
  go_wp2_with fail
  go_ret
  exact HF.u
 have e1 : (x.toList == word.toList) = false := by rw [same_words]; exact decide_eq_false hxw
 have HF := J (HFin.u false 0 w1 (by rw [HRow.u, decide_eq_false hxw]; simp) (by omega) HRr.u HG1.u (by simp) HC1.u)
 clear HR HR0 hz hxw
 go_wp2_with fail
 go_ret
 exact HF.u
end Go.Proofs.YtoidcbpcnikejaaGreatDoor
