/- Of the texts CrnR, RdpC, BakM, TxtW, PrdM, PrdC, WhlM, WhlC: what this claim reaches. -/
import Derived.RegionTactic
import Derived.Deep.AppendLies
import Derived.Deep.RegionLaw
import Derived.Lib.SlicesS
import Derived.Lib.Strings
import Derived.Deep.DeepCutAuto
import Derived.Test.YtidonhndeohdlaaGreatDoorTt13
import Derived.Test.YtidonhndeohdlaaGreatDoorTt00
import Derived.Test.YtidonhndeohdlaaGreatDoorTt11
set_option linter.unusedVariables false
set_option linter.unusedSimpArgs false
namespace Go.Proofs.YtidonhndeohdlaaGreatDoor
open Go.RowKit
def anyV (g : Nat) : Option Nat → Value
  | none => .pointer none
  | some j => .pointer (some ⟨g, j, none⟩)
def anyPut (an : Option Nat) (b : Bool) (c : Array Value) : Array Value := match an, b with
  | some j, true => c.setIfInBounds j (.bool true)
  | _, _ => c
def fieldV (g k : Nat) (an : Option Nat) : Array Value := #[.pointer (some ⟨g, k, none⟩), .int .i64 (Tide.lim k).1, .int .i64 (Tide.lim k).2, anyV g an]
structure RdS (w0 W : World) (g : Nat) (c : Array Value) (B : Nat) (bx : Array Value) : Prop where
  row : Tide.At W g 61 c
  box : Tide.At W B 108 bx
  chg : Tide.Chg (fun b => b = g) w0 W
  lo : w0.heap.size ≤ B
def FldPost (k g : Nat) (an : Option Nat) (s : ByteArray) (c : Array Value) (w : World) (e : Ending) (w' : World) : Prop := ∃ c', e = .returned (.bool (Tide.fieldOk (Tide.lim k).1 (Tide.lim k).2 s)) ∧ Tide.At w' g 61 c' ∧ Tide.Chg (fun b => b = g) w w' ∧ (Tide.fieldOk (Tide.lim k).1 (Tide.lim k).2 s = true → c' = anyPut an (s.toList == [42]) (c.setIfInBounds k (.int .u64 (Tide.fieldN (Tide.lim k).1 (Tide.lim k).2 s : Nat))))
theorem RdS.put {w0 W : World} {g B k : Nat} {c bx : Array Value} (h : RdS w0 W g c B bx) (u : Value) : RdS w0 (W.setCell ⟨g, k, none⟩ u) g (c.setIfInBounds k u) B bx :=
  ⟨h.row.put k u, h.box.other (fun e => h.row.apart h.box (by decide) e.symm) u, h.chg.put (.inl rfl) u, h.lo⟩
theorem all5 {w0 W : World} {g B k : Nat} {an : Option Nat} {c : Array Value} (h : RdS w0 W g c B (fieldV g k an)) : Calls Tryz.prog 78 #[.agg (fieldV g k an)] W fun e w' => e = .returned (.int .u64 (Tide.allN (Tide.lim k).1 (Tide.lim k).2 : Nat)) ∧ RdS w0 w' g c B (fieldV g k an) ∧
    w'.cell? ⟨B, 0, none⟩ = some (.pointer (some ⟨g, k, none⟩)) ∧ w'.cell? ⟨B, 1, none⟩ = some (.int .i64 ((Tide.lim k).1 : Nat)) ∧ w'.cell? ⟨B, 2, none⟩ = some (.int .i64 ((Tide.lim k).2 : Nat)) ∧ w'.cell? ⟨B, 3, none⟩ = some (anyV g an) ∧ w'.frozen? ⟨g, k, none⟩ = false ∧ w'.cell? ⟨g, k, none⟩ = c[k]? :=
  (cronAll (Tide.lim k).1 (Tide.lim k).2 _ _ W (Tide.lim_le k).1 (Tide.lim_le k).2).mono fun _ w' ⟨he, hb⟩ =>
    have hr : RdS w0 w' g c B (fieldV g k an) := ⟨h.row.below hb h.row.inside, h.box.below hb h.box.inside, h.chg.step_below hb h.chg.size, h.lo⟩
    ⟨he, hr, hr.box.here rfl, hr.box.here rfl, hr.box.here rfl, hr.box.here rfl, hr.row.soft k, by
      cases hc : c[k]? with
      | none => exact (cell_of_row w' g k c 61 (0, 0) hr.row).trans hc
      | some v => exact hr.row.here hc⟩
theorem RdS.below {w0 W W' : World} {g B : Nat} {c bx : Array Value} (h : RdS w0 W g c B bx) (hb : Below W.heap.size W W') : RdS w0 W' g c B bx :=
  ⟨h.row.below hb h.row.inside, h.box.below hb h.box.inside, h.chg.step_below hb h.chg.size, h.lo⟩
theorem set_set {c : Array Value} {k : Nat} {u v : Value} : (c.setIfInBounds k u).setIfInBounds k v = c.setIfInBounds k v := by
  apply Array.ext_getElem?
  intro i
  by_cases e : k = i
  · subst e
    by_cases h : k < c.size
    · rw [Array.getElem?_setIfInBounds_self_of_lt h, Array.getElem?_setIfInBounds_self_of_lt (by simpa using h)]
    · rw [Array.getElem?_eq_none (by simp; omega), Array.getElem?_eq_none (by simp; omega)]
  · rw [Array.getElem?_setIfInBounds_ne e, Array.getElem?_setIfInBounds_ne e, Array.getElem?_setIfInBounds_ne e]
theorem set_self {c : Array Value} {k : Nat} {v : Value} (h : c[k]? = some v) : c.setIfInBounds k v = c := by
  apply Array.ext_getElem?
  intro i
  by_cases e : k = i
  · subst e
    obtain ⟨h1, h2⟩ := Array.getElem?_eq_some_iff.1 h
    rw [Array.getElem?_setIfInBounds_self_of_lt h1, h]
  · rw [Array.getElem?_setIfInBounds_ne e]
structure RdRun (k g : Nat) (an : Option Nat) (s : ByteArray) (c : Array Value) (w wr : World) (q kk : Nat) : Prop where
  rds : RdS w wr g (c.setIfInBounds k (.int .u64 (Tide.maskN (Tide.itemsN (Tide.lim k).1 (Tide.lim k).2 ((Tide.piecesB 44 s).take kk)) : Nat))) w.heap.size (fieldV g k an)
  list : Tide.At wr q 9 ((Tide.piecesB 44 s).map Value.string).toArray
  good : ∀ p ∈ (Tide.piecesB 44 s).take kk, Tide.itemN (Tide.lim k).1 (Tide.lim k).2 p ≠ []
theorem RdRun.below {k g : Nat} {an : Option Nat} {s : ByteArray} {c : Array Value} {w wr w' : World} {q kk : Nat} (h : RdRun k g an s c w wr q kk) (hb : Below wr.heap.size wr w') : RdRun k g an s c w w' q kk :=
  ⟨h.rds.below hb, h.list.below hb h.list.inside, h.good⟩
theorem RdRun.next {k g : Nat} {an : Option Nat} {s p : ByteArray} {c : Array Value} {w wr : World} {q kk : Nat} (h : RdRun k g an s c w wr q kk) (hp : (Tide.piecesB 44 s)[kk]? = some p) (hn : Tide.itemN (Tide.lim k).1 (Tide.lim k).2 p ≠ []) :
    RdRun k g an s c w (wr.setCell ⟨g, k, none⟩ (.int .u64 (Tide.maskN (Tide.itemsN (Tide.lim k).1 (Tide.lim k).2 ((Tide.piecesB 44 s).take kk)) ||| Tide.maskN (Tide.itemN (Tide.lim k).1 (Tide.lim k).2 p) : Nat))) q (kk + 1) := by
  refine ⟨?_, h.list.other (fun e => h.rds.row.apart h.list (by decide) e.symm) _, ?_⟩
  · rw [Tide.take_of_get hp, Tide.itemsN_snoc, Tide.maskN_append]
    have := h.rds.put (k := k) (.int .u64 (Tide.maskN (Tide.itemsN (Tide.lim k).1 (Tide.lim k).2 ((Tide.piecesB 44 s).take kk)) ||| Tide.maskN (Tide.itemN (Tide.lim k).1 (Tide.lim k).2 p) : Nat))
    rwa [set_set] at this
  · rw [Tide.take_of_get hp]
    intro x hx
    rcases List.mem_append.1 hx with hx | hx
    · exact h.good x hx
    · rw [List.mem_singleton.1 hx]; exact hn
set_option maxRecDepth 100000 in
set_option maxHeartbeats 3200000 in
theorem cronRead (k g : Nat) (an : Option Nat) (s : ByteArray) (c : Array Value) (m : Int) (w : World) (hs : s.size ≤ 1000000) (hm : w.cell? ⟨1, 0, none⟩ = some (.int .i64 m))
    (hg : 1 ≠ g) (hA : Tide.At w g 61 c) (hc : c[k]? = some (.int .u64 0)) (ha : ∀ j, an = some j → ∃ b, c[j]? = some (.bool b) ∧ j ≠ k) :
    Calls Tryz.prog 113 #[.agg (fieldV g k an), .string s] w (FldPost k g an s c w) := by
  have hB := Tide.At.made w 108 (fieldV g k an)
  have hR : RdS w (w.alloc (.cells (fieldV g k an) 108)) g c w.heap.size (fieldV g k an) := ⟨hA.alloc _, hB, (Tide.Chg.refl _ _).alloc _, Nat.le_refl _⟩
  have x0 : (w.alloc (.cells (fieldV g k an) 108)).cell? ⟨w.heap.size, 0, none⟩ = some (.pointer (some ⟨g, k, none⟩)) := hB.here (i := 0) rfl
  have x1 : (w.alloc (.cells (fieldV g k an) 108)).cell? ⟨w.heap.size, 1, none⟩ = some (.int .i64 ((Tide.lim k).1 : Nat)) := hB.here (i := 1) rfl
  have x2 : (w.alloc (.cells (fieldV g k an) 108)).cell? ⟨w.heap.size, 2, none⟩ = some (.int .i64 ((Tide.lim k).2 : Nat)) := hB.here (i := 2) rfl
  have x3 : (w.alloc (.cells (fieldV g k an) 108)).cell? ⟨w.heap.size, 3, none⟩ = some (anyV g an) := hB.here (i := 3) rfl
  by_cases hst : (s.toList == [42]) = true
  · have hss : s = Tide.star := by
      apply Tide.ba_ext
      rw [← ByteArray.toList_eq s, eq_of_beq hst]; rfl
    have hok := Tide.star_field k
    have HQ := Lib.hid (fun (c' : Array Value) (w' : World) (h1 : Tide.At w' g 61 c') (h2 : Tide.Chg (fun b => b = g) w w') (h3 : c' = anyPut an true (c.setIfInBounds k (.int .u64 (Tide.allN (Tide.lim k).1 (Tide.lim k).2 : Nat)))) => (show FldPost k g an s c w (.returned (.bool true)) w' from ⟨c', by rw [hss, hok.1], h1, h2, fun _ => by rw [hst, hss, hok.2]; exact h3⟩))
    have y0 := hR.row.here hc
    have y1 := hR.row.soft k
    clear hok hss hm hs
    go_enter Tryz.func113, Tryz.ntmps113
    go_upto_region 2 with fail
    generalize w.alloc (.cells (fieldV g k an) 108) = W at *
    have hR2 : RdS w W.drew g c w.heap.size (fieldV g k an) := ⟨hR.row.drew, hR.box.drew, hR.chg.drew, hR.lo⟩
    go_region_with (go_at_call 78; refine (all5 (w0 := w) (an := an) (by assumption)).mono ?_; rintro e w1 ⟨rfl, hR1, z0, z1, z2, z3, z4, z5⟩)
    all_goals
      have HR := Lib.hid (hR1.put (k := k) (.int .u64 (Tide.allN (Tide.lim k).1 (Tide.lim k).2 : Nat)))
      clear hR hR2 hR1 x0 x1 x2 x3 y0 y1 z0 z1 z2 z3 z4 z5 hB
      generalize w1.setCell ⟨g, k, none⟩ (.int .u64 (Tide.allN (Tide.lim k).1 (Tide.lim k).2 : Nat)) = W2 at HR ⊢
      cases an with
      | none =>
        have x3 : W2.cell? ⟨w.heap.size, 3, none⟩ = some (.pointer none) := HR.out.box.here (i := 3) rfl
        have HF := Lib.hid (HQ.out _ W2 HR.out.row HR.out.chg rfl)
        clear HR HQ
        go_wp2_with fail
        go_ret
        exact HF.out
      | some j =>
        have x3 : W2.cell? ⟨w.heap.size, 3, none⟩ = some (.pointer (some ⟨g, j, none⟩)) := HR.out.box.here (i := 3) rfl
        obtain ⟨b, hb, hjk⟩ := ha j rfl
        have x4 : W2.cell? ⟨g, j, none⟩ = some (.bool b) := HR.out.row.here (by rw [Array.getElem?_setIfInBounds_ne (Ne.symm hjk)]; exact hb)
        have x5 := HR.out.row.soft j
        have HF := Lib.hid (HQ.out _ _ (HR.out.row.put j (.bool true)) (HR.out.chg.put (.inl rfl) (.bool true)) rfl)
        clear HR HQ
        go_wp2_with fail
        go_ret
        exact HF.out
  · have hst' : (s.toList == [42]) = false := by simpa using hst
    have HR := Lib.hid hR
    have HS := Lib.hid hs
    have HM := Lib.hid hm
    have hmax := World.block_lt_of_cell? _ _ hm
    have HPS := Lib.hid (fun p (hp : p ∈ Tide.piecesB 44 s) => (Tide.piecesB_le hp : p.size ≤ s.size))
    have hfew := Tide.piecesB_few 44 s
    clear hst hR hB hm hs x0 x1 x2 x3
    go_enter Tryz.func113, Tryz.ntmps113
    go_wp2_with fail
    refine (shlSplit 44 s m _ HS.out (((Below.refl w.heap.size w).alloc (Nat.le_refl _) (.cells (fieldV g k an) 108)).cell (p := ⟨1, 0, none⟩) hmax |>.trans HM.out)).mono ?_
    rintro e w1 ⟨rfl, rfl⟩
    have HN := Lib.hid (show RdRun k g an s c w ((w.alloc (.cells (fieldV g k an) 108)).alloc (.cells ((Tide.piecesB 44 s).map Value.string).toArray 9)) (w.alloc (.cells (fieldV g k an) 108)).heap.size 0 from ⟨by
      have e : c.setIfInBounds k (.int .u64 (Tide.maskN (Tide.itemsN (Tide.lim k).1 (Tide.lim k).2 ((Tide.piecesB 44 s).take 0)) : Nat)) = c := set_self hc
      rw [e]
      exact HR.out.below ((Below.refl _ _).alloc (Nat.le_refl _) _), Tide.At.made _ _ _, by simp⟩)
    have hq := World.size_alloc w (.cells (fieldV g k an) 108)
    clear HR
    generalize ((w.alloc (.cells (fieldV g k an) 108)).alloc (.cells ((Tide.piecesB 44 s).map Value.string).toArray 9)) = W1 at HN ⊢
    generalize (w.alloc (.cells (fieldV g k an) 108)).heap.size = q at HN hq ⊢
    have HGet := Lib.hid (fun kk => Tide.get_some (Tide.piecesB 44 s) (i := kk))
    obtain ⟨n, Hn⟩ : ∃ n, Hid ((Tide.piecesB 44 s).length = n) := ⟨_, Lib.hid rfl⟩
    have hn0 := HS.out
    rw [Hn.out] at hfew ⊢
    have hn1 : (n : Int) ≤ 1000001 := by omega
    have h61 := (Tide.lim_le k).1; have h62 := (Tide.lim_le k).2
    have HC0 := Lib.hid hc
    clear hq hn0 hfew hc
    go_wp2_with fail
    go_loopw [24] (fun x wr => ∃ kk : Nat, kk ≤ n ∧ x = .int .i64 kk ∧ Hid (RdRun k g an s c w wr q kk)) (fun x _ => n - (intOf x).toNat)
    case atStart => exact ⟨0, by omega, rfl, HN⟩
    case round =>
      clear HN
      obtain ⟨kk, hkk, rfl, HN⟩ := hrel
      have i0 : (0 : Int) ≤ (kk : Int) := by omega
      by_cases hlt : kk < n
      · have i1 : (kk : Int) < (n : Int) := by omega
        obtain ⟨p, hp⟩ := HGet.out kk (by have := Hn.out; omega)
        have HPs := Lib.hid (show p.size ≤ 1000000 by have := HPS.out p (List.mem_of_getElem? hp); have := HS.out; omega)
        have y0 : wr.cell? ⟨q, kk, none⟩ = some (.string p) := HN.out.list.here (by rw [List.getElem?_toArray, List.getElem?_map, hp]; rfl)
        have x0 : wr.cell? ⟨w.heap.size, 0, none⟩ = some (.pointer (some ⟨g, k, none⟩)) := HN.out.rds.box.here (i := 0) rfl
        have x1 : wr.cell? ⟨w.heap.size, 1, none⟩ = some (.int .i64 ((Tide.lim k).1 : Nat)) := HN.out.rds.box.here (i := 1) rfl
        have x2 : wr.cell? ⟨w.heap.size, 2, none⟩ = some (.int .i64 ((Tide.lim k).2 : Nat)) := HN.out.rds.box.here (i := 2) rfl
        have x3 : wr.cell? ⟨w.heap.size, 3, none⟩ = some (anyV g an) := HN.out.rds.box.here (i := 3) rfl
        have HP := Lib.hid hp
        have HLt := Lib.hid hlt
        clear hp hlt
        go_wp2_with fail
        refine (cronItem (Tide.lim k).1 (Tide.lim k).2 _ _ p m _ HPs.out (by omega) (by omega) ((World.cell?_of_block (w := w) (a := ⟨1, 0, none⟩) (HN.out.rds.chg.block _ hmax hg)).trans HM.out)).mono ?_
        rintro e w2 ⟨rfl, hb2⟩
        have HN2 := Lib.hid (HN.out.below hb2)
        clear hb2 HN x0 x1 x2 x3 y0
        by_cases hnil : Tide.itemN (Tide.lim k).1 (Tide.lim k).2 p = []
        · have HF := Lib.hid (show FldPost k g an s c w (.returned (.bool false)) w2 from ⟨_, by rw [Tide.fieldOk_bad HP.out hnil], HN2.out.rds.row, HN2.out.rds.chg, fun h => by rw [Tide.fieldOk_bad HP.out hnil] at h; cases h⟩)
          rw [hnil, show Tide.maskN [] = 0 from rfl]
          clear hnil HN2
          go_wp2_with fail
          go_ret
          exact HF.out
        · have HX := Lib.hid (HN2.out.next HP.out hnil)
          have HM0 := Lib.hid (fun h => hnil (Tide.maskN_zero h))
          have m1 := Tide.mask_items_lt (first := (Tide.lim k).1) (Tide.lim_le k).2 ((Tide.piecesB 44 s).take kk)
          have m2 := Tide.maskN_lt (ns := Tide.itemN (Tide.lim k).1 (Tide.lim k).2 p) (fun n hn => by have := Tide.itemN_in (first := ((Tide.lim k).1 : Int)) (by omega) n hn; omega)
          have HO := Lib.hid (Tide.or_u64 _ _ m1 m2)
          have z0 := HN2.out.rds.row.here (i := k) (by
            obtain ⟨h1, _⟩ := Array.getElem?_eq_some_iff.1 HC0.out
            exact Array.getElem?_setIfInBounds_self_of_lt h1)
          have z1 := HN2.out.rds.row.soft k
          have x0 : w2.cell? ⟨w.heap.size, 0, none⟩ = some (.pointer (some ⟨g, k, none⟩)) := HN2.out.rds.box.here (i := 0) rfl
          have HNe := Lib.hid (show ((Tide.maskN (Tide.itemN (Tide.lim k).1 (Tide.lim k).2 p) : Nat) : Int) ≠ 0 from fun e => HM0.out (by omega))
          clear hnil HN2 HM0 m1 m2
          generalize Tide.maskN (Tide.itemN (Tide.lim k).1 (Tide.lim k).2 p) = M at HX HO HNe ⊢
          generalize Tide.maskN (Tide.itemsN (Tide.lim k).1 (Tide.lim k).2 ((Tide.piecesB 44 s).take kk)) = M0 at HX HO z0 ⊢
          have hne := HNe.out
          rw [← HO.out] at HX
          clear HO HNe
          go_wp2_with fail
          go_roundw
          case rel => exact ⟨kk + 1, HLt.out, by go_num, HX⟩
          case measure => have := HLt.out; simp [intOf]; omega
      · have hke : kk = n := by omega
        have HF := Lib.hid (show FldPost k g an s c w (.returned (.bool true)) wr from by
          have h1 := HN.out.rds; have h2 := HN.out.good
          rw [hke, ← Hn.out, List.take_length] at h1 h2
          exact ⟨_, by rw [Tide.fieldOk_good h2], h1.row, h1.chg, fun _ => by rw [hst']; cases an <;> rfl⟩)
        have i1 : (n : Int) ≤ (kk : Int) := by omega
        clear HN hke hkk hlt
        go_wp2_with fail
        go_ret
        exact HF.out
open Go.RowKit
theorem info_text : (Tryz.prog.info? 9).map (fun i => (i.zero, i.size, i.bytes)) = some (some (.string ByteArray.empty), 1, 16) := by kernel_rfl
theorem info_split {i : Option TypeInfo} {z : Option Value} {s b : Nat} (h : i.map (fun i => (i.zero, i.size, i.bytes)) = some (z, s, b)) : ∃ j, i = some j ∧ j.zero = z ∧ j.size = s ∧ j.bytes = b := by
  cases i with
  | none => cases h
  | some j => simp only [Option.map_some, Option.some.injEq, Prod.mk.injEq] at h; exact ⟨j, rfl, h.1, h.2.1, h.2.2⟩
structure PcRun (c : UInt8) (s : ByteArray) (w wr : World) (g cap k : Nat) (ps : List ByteArray) : Prop where
  data : ps.map (fun x : ByteArray => x.data.toList) = Tide.pieces c (s.data.toList.take k)
  row : Tide.OwnRow (fun b => w.heap.size ≤ b) wr 9 1 (.slice (some ⟨g, 0, none⟩) ps.length cap) ps.length (ps.map Value.string)
  below : Below w.heap.size w wr
theorem PcRun.pos {c : UInt8} {s : ByteArray} {w wr : World} {g cap k : Nat} {ps : List ByteArray} (h : PcRun c s w wr g cap k ps) : 0 < ps.length := by
  have := congrArg List.length h.data
  rw [List.length_map] at this
  rw [this]; exact Tide.pieces_pos c _
theorem PcRun.few {c : UInt8} {s : ByteArray} {w wr : World} {g cap k : Nat} {ps : List ByteArray} (h : PcRun c s w wr g cap k ps) : ps.length ≤ s.size + 1 := by
  have := congrArg List.length h.data
  rw [List.length_map, Tide.pieces_many] at this
  have h2 := List.count_le_length (a := c) (l := s.data.toList.take k)
  rw [List.length_take, ← Tide.ba_size] at h2
  omega
end Go.Proofs.YtidonhndeohdlaaGreatDoor
namespace Tide
open Go
theorem pieces_app {c : UInt8} : ∀ {x : List UInt8} (l : List UInt8), c ∉ x → pieces c (x ++ c :: l) = x :: pieces c l
  | [], l, _ => pieces_eq c l
  | b :: x, l, h => by
    rw [List.mem_cons, not_or] at h
    rw [List.cons_append, pieces_ne (fun e => h.1 e.symm) (pieces_app l h.2)]
theorem pieces_tail {c : UInt8} : ∀ {xs : List (List UInt8)} {x : List UInt8}, c ∉ x → (∀ y ∈ xs, c ∉ y) → pieces c (x ++ Lib.joinTail [c] xs) = x :: xs
  | [], x, h, _ => by
    show pieces c (x ++ []) = _
    rw [List.append_nil, pieces_one h]
  | y :: xs, x, h, hs => by
    have ih := pieces_tail (xs := xs) (x := y) (hs y (by simp)) (fun z hz => hs z (List.mem_cons_of_mem _ hz))
    have e : Lib.joinTail [c] (y :: xs) = c :: (y ++ Lib.joinTail [c] xs) := by
      unfold Lib.joinTail
      simp
    rw [e, pieces_app _ h, ih]
theorem piecesB_join {c : UInt8} {l : List ByteArray} (hl : l ≠ []) (h : ∀ x ∈ l, c ∉ x.data.toList) : piecesB c (joinB c l) = l := by
  symm
  apply pieces_isB
  cases l with
  | nil => exact absurd rfl hl
  | cons x l =>
    show _ = pieces c (Lib.join (x.data.toList :: l.map (·.data.toList)) [c])
    rw [Lib.join_cons, pieces_tail (h x (by simp)) (fun y hy => by
      obtain ⟨z, hz, rfl⟩ := List.mem_map.1 hy
      exact h z (List.mem_cons_of_mem _ hz))]
    rfl
theorem cutB_out {c : UInt8} : ∀ {l : List UInt8}, c ∉ l → cutB c l = (l, [], false)
  | [], _ => rfl
  | b :: l, h => by
    rw [List.mem_cons, not_or] at h
    rw [cutB_ne (fun e => h.1 e.symm), cutB_out h.2]
theorem cutB_app {c : UInt8} : ∀ {x : List UInt8} (l : List UInt8), c ∉ x → cutB c (x ++ c :: l) = (x, l, true)
  | [], l, _ => cutB_eq c l
  | b :: x, l, h => by
    rw [List.mem_cons, not_or] at h
    rw [List.cons_append, cutB_ne (fun e => h.1 e.symm), cutB_app l h.2]
theorem digs_two : ∀ n < 100, ∀ b ∈ (if n < 10 then [UInt8.ofNat (48 + n)] else [UInt8.ofNat (48 + n / 10), UInt8.ofNat (48 + n % 10)]), digB b = true := by decide +kernel
theorem digs_val : ∀ n < 100, numL 2 (if n < 10 then [UInt8.ofNat (48 + n)] else [UInt8.ofNat (48 + n / 10), UInt8.ofNat (48 + n % 10)]) = (n : Int) := by decide +kernel
theorem decB_list {n : Nat} (h : n < 100) : (decB n).data.toList = if n < 10 then [UInt8.ofNat (48 + n)] else [UInt8.ofNat (48 + n / 10), UInt8.ofNat (48 + n % 10)] := by
  show Lib.decDigits n = _
  split
  · rename_i h1; exact Lib.decDigits_one h1
  · rename_i h1; exact Lib.decDigits_two h1 h
theorem decB_dig {n : Nat} (h : n < 100) : ∀ b ∈ (decB n).data.toList, digB b = true := by rw [decB_list h]; exact digs_two n h
theorem decB_val {n : Nat} (h : n < 100) : numL 2 (decB n).data.toList = (n : Int) := by rw [decB_list h]; exact digs_val n h
theorem decB_not {n : Nat} (h : n < 100) {c : UInt8} (hc : digB c = false) : c ∉ (decB n).data.toList := fun hm => by rw [decB_dig h c hm] at hc; cases hc
theorem runTxt_list {a b : Nat} : (runTxt a b).data.toList = if b = a then (decB a).data.toList else (decB a).data.toList ++ 45 :: (decB b).data.toList := by
  unfold runTxt
  split
  · rfl
  · rw [ByteArray.data_append, ByteArray.data_append, Array.toList_append, Array.toList_append]
    simp
theorem runTxt_not {a b : Nat} (ha : a < 100) (hb : b < 100) {c : UInt8} (hc : digB c = false) (h45 : c ≠ 45) : c ∉ (runTxt a b).data.toList := by
  rw [runTxt_list]
  split
  · exact decB_not ha hc
  · rw [List.mem_append, List.mem_cons]
    rintro (h | h | h)
    · exact decB_not ha hc h
    · exact h45 h
    · exact decB_not hb hc h
theorem runTxt_item {a b lo hi : Nat} (ha : lo ≤ a) (hab : a ≤ b) (hb : b ≤ hi) (hh : hi < 100) : itemN (lo : Int) (hi : Int) (runTxt a b) = ticksF 100 (a : Int) (b : Int) 1 := by
  have h47 : (47 : UInt8) ∉ (runTxt a b).data.toList := runTxt_not (by omega) (by omega) (by decide) (by decide)
  have hc : cutB 47 (runTxt a b).data.toList = ((runTxt a b).data.toList, [], false) := cutB_out h47
  have eX : cutX 47 (runTxt a b) = runTxt a b := ba_ext (by unfold cutX; rw [hc])
  have eZ : cutZ 47 (runTxt a b) = false := by unfold cutZ; rw [hc]
  have hns : runTxt a b ≠ star := by
    intro e
    have : (42 : UInt8) ∈ (runTxt a b).data.toList := by rw [e]; simp [star]
    exact runTxt_not (by omega) (by omega) (by decide) (by decide) this
  have hcut : cutB 45 (runTxt a b).data.toList = if b = a then ((decB a).data.toList, [], false) else ((decB a).data.toList, (decB b).data.toList, true) := by
    rw [runTxt_list]
    split
    · exact cutB_out (decB_not (by omega) (by decide))
    · exact cutB_app _ (decB_not (by omega) (by decide))
  have e45 : cutX 45 (runTxt a b) = decB a := ba_ext (by unfold cutX; rw [hcut]; split <;> rfl)
  rw [itemN_else (lo := (a : Int)) (hi := (b : Int)) (ev := 1)]
  · exact spread_some (by omega) (by omega) (by omega)
  · unfold itBad; rw [eZ]; simp
  · unfold itLo; rw [eX, if_neg hns, e45, decB_val (by omega)]
  · unfold itHi
    rw [eX, if_neg hns, e45]
    by_cases h : b = a
    · have : cutZ 45 (runTxt a b) = false := by unfold cutZ; rw [hcut, if_pos h]
      rw [this, if_neg (by simp), decB_val (by omega), h]
    · have h1 : cutZ 45 (runTxt a b) = true := by unfold cutZ; rw [hcut, if_neg h]
      have h2 : cutY 45 (runTxt a b) = decB b := ba_ext (by unfold cutY; rw [hcut, if_neg h])
      rw [h1, if_pos rfl, h2, decB_val (by omega)]
  · unfold itEv; rw [eZ]; rfl
theorem ticks_mem : ∀ (f : Nat) (a b : Nat), b + 1 - a ≤ f → ∀ n : Nat, n ∈ ticksF f (a : Int) (b : Int) 1 ↔ a ≤ n ∧ n ≤ b
  | 0, a, b, h, n => by
    show n ∈ [] ↔ _
    simp; omega
  | f + 1, a, b, h, n => by
    show n ∈ (if (a : Int) ≤ (b : Int) then ((a : Int)).toNat :: ticksF f ((a : Int) + 1) (b : Int) 1 else []) ↔ _
    split
    · have ih := ticks_mem f (a + 1) b (by omega) n
      rw [List.mem_cons, show ((a : Int) + 1) = ((a + 1 : Nat) : Int) by omega, ih]
      omega
    · simp; omega
theorem maskN_bit (ns : List Nat) (n : Nat) : (maskN ns).testBit n = decide (n ∈ ns) := by
  induction ns with
  | nil => show (0 : Nat).testBit n = _; simp
  | cons m ns ih =>
    rw [show maskN (m :: ns) = ns.foldl (fun m n => m ||| 2 ^ n) (0 ||| 2 ^ m) from rfl, fold_or, Nat.zero_or, Nat.testBit_or, ih, Nat.testBit_two_pow]
    by_cases h : m = n
    · subst h; simp
    · rw [decide_eq_false h]
      rw [Bool.false_or, decide_eq_decide, List.mem_cons]
      constructor
      · exact .inr
      · rintro (h1 | h1)
        · exact absurd h1.symm h
        · exact h1
theorem begin_below {s lo : Nat} : ∀ (n : Nat), lo ≤ n → s.testBit n = true → ∃ u, lo ≤ u ∧ u ≤ n ∧ begins s lo u = true ∧ ∀ m, u ≤ m → m ≤ n → s.testBit m = true
  | 0, h, hb => ⟨0, h, Nat.le_refl _, by unfold begins; rw [hb, decide_eq_true (show 0 = lo by omega)]; rfl, fun m _ h2 => by rw [show m = 0 by omega]; exact hb⟩
  | n + 1, h, hb => by
    by_cases h1 : n + 1 = lo
    · exact ⟨n + 1, h, Nat.le_refl _, by unfold begins; rw [hb, decide_eq_true h1]; rfl, fun m q1 q2 => by rw [show m = n + 1 by omega]; exact hb⟩
    · cases hp : s.testBit n with
      | false => exact ⟨n + 1, h, Nat.le_refl _, by unfold begins; rw [hb, show n + 1 - 1 = n by omega, hp]; simp, fun m q1 q2 => by rw [show m = n + 1 by omega]; exact hb⟩
      | true =>
        obtain ⟨u, a1, a2, a3, a4⟩ := begin_below (s := s) (lo := lo) n (by omega) hp
        refine ⟨u, a1, by omega, a3, fun m q1 q2 => ?_⟩
        by_cases hm : m ≤ n
        · exact a4 m q1 hm
        · rw [show m = n + 1 by omega]; exact hb
theorem txts_mem {s lo hi v : Nat} {x : ByteArray} : x ∈ txtsUp s lo hi v ↔ ∃ u, u < v ∧ lo ≤ u ∧ begins s lo u = true ∧ runTxt u (runEnd s hi 64 u) = x := by
  unfold txtsUp
  rw [List.mem_map]
  constructor
  · rintro ⟨u, hu, e⟩
    rw [List.mem_filter, List.mem_range, Bool.and_eq_true, decide_eq_true_eq] at hu
    exact ⟨u, hu.1, hu.2.1, hu.2.2, e⟩
  · rintro ⟨u, h1, h2, h3, e⟩
    exact ⟨u, by rw [List.mem_filter, List.mem_range, Bool.and_eq_true, decide_eq_true_eq]; exact ⟨h1, h2, h3⟩, e⟩
structure FieldIn (s lo hi : Nat) : Prop where
  ne : s ≠ 0
  bits : ∀ n, s.testBit n = true → lo ≤ n ∧ n ≤ hi
  le : lo ≤ hi
  lt : hi ≤ 60
theorem txts_ne {s lo hi : Nat} (h : FieldIn s lo hi) : txtsUp s lo hi (hi + 1) ≠ [] := by
  obtain ⟨n, hn⟩ := Nat.exists_testBit_of_ne_zero h.ne
  obtain ⟨u, a1, a2, a3, _⟩ := begin_below n (h.bits n hn).1 hn
  have hm : runTxt u (runEnd s hi 64 u) ∈ txtsUp s lo hi (hi + 1) := txts_mem.2 ⟨u, by have := (h.bits n hn).2; omega, a1, a3, rfl⟩
  intro e; rw [e] at hm; cases hm
theorem join_pieces {s lo hi : Nat} (h : FieldIn s lo hi) : piecesB 44 (joinB 44 (txtsUp s lo hi (hi + 1))) = txtsUp s lo hi (hi + 1) := by
  refine piecesB_join (txts_ne h) fun x hx => ?_
  obtain ⟨u, a1, a2, a3, rfl⟩ := txts_mem.1 hx
  have := (runEnd_le s hi 64 u (by omega)).2.1
  exact runTxt_not (by have := h.lt; omega) (by have := h.lt; omega) (by decide) (by decide)
theorem join_field {s lo hi : Nat} (h : FieldIn s lo hi) : fieldOk lo hi (joinB 44 (txtsUp s lo hi (hi + 1))) = true ∧ fieldN lo hi (joinB 44 (txtsUp s lo hi (hi + 1))) = s := by
  have hit : ∀ x ∈ txtsUp s lo hi (hi + 1), ∃ u, lo ≤ u ∧ u ≤ hi ∧ begins s lo u = true ∧ itemN (lo : Int) (hi : Int) x = ticksF 100 (u : Int) (runEnd s hi 64 u : Nat) 1 := by
    intro x hx
    obtain ⟨u, a1, a2, a3, rfl⟩ := txts_mem.1 hx
    have hr := runEnd_le s hi 64 u (by omega)
    exact ⟨u, a2, by omega, a3, runTxt_item a2 hr.1 hr.2.1 (by have := h.lt; omega)⟩
  constructor
  · refine fieldOk_good fun x hx => ?_
    rw [join_pieces h] at hx
    obtain ⟨u, a1, a2, a3, e⟩ := hit x hx
    have hr := runEnd_le s hi 64 u (by omega)
    rw [e]
    intro e2
    have := (ticks_mem 100 u (runEnd s hi 64 u) (by have := h.lt; omega) u).2 ⟨Nat.le_refl _, hr.1⟩
    rw [e2] at this; cases this
  · unfold fieldN itemsN
    rw [join_pieces h]
    apply Nat.eq_of_testBit_eq
    intro n
    rw [maskN_bit]
    rw [Bool.eq_iff_iff, decide_eq_true_eq, List.mem_flatMap]
    constructor
    · rintro ⟨x, hx, hn⟩
      obtain ⟨u, a1, a2, a3, e⟩ := hit x hx
      have hr := runEnd_le s hi 64 u (by omega)
      rw [e, ticks_mem 100 u _ (by have := h.lt; omega)] at hn
      by_cases hnu : n = u
      · subst hnu
        unfold begins at a3
        rw [Bool.and_eq_true] at a3
        exact a3.1
      · exact hr.2.2 n (by omega) hn.2
    · intro hb
      obtain ⟨h1, h2⟩ := h.bits n hb
      obtain ⟨u, a1, a2, a3, a4⟩ := begin_below n h1 hb
      have hr := runEnd_le s hi 64 u (by omega)
      have hge : n ≤ runEnd s hi 64 u := by
        rcases Nat.lt_or_ge (runEnd s hi 64 u) n with hl | hl
        · have hx := runEnd_max s hi 64 u (by omega) (by have := h.lt; omega) (by omega)
          rw [a4 _ (by omega) (by omega)] at hx; cases hx
        · exact hl
      have hx : runTxt u (runEnd s hi 64 u) ∈ txtsUp s lo hi (hi + 1) := txts_mem.2 ⟨u, by omega, a1, a3, rfl⟩
      refine ⟨_, hx, ?_⟩
      rw [runTxt_item a1 hr.1 hr.2.1 (by have := h.lt; omega), ticks_mem 100 u _ (by have := h.lt; omega)]
      exact ⟨a2, hge⟩
end Tide
namespace Tide
open Go
def minusL (l : List UInt8) : Bool := l.head? == some 45
def digsL (l : List UInt8) : List UInt8 := if minusL l then l.tail else l
def wholeOk (most : Nat) (l : List UInt8) : Bool := decide (0 ≤ numL most (digsL l)) && !(decide (1 < (digsL l).length) && (digsL l).head? == some 48) && !(minusL l && decide (numL most (digsL l) = 0))
def wholeV (most : Nat) (l : List UInt8) : Int := if minusL l then -numL most (digsL l) else numL most (digsL l)
theorem valL_fold (l : List UInt8) (n : Int) : l.foldl (fun n b => 10 * n + ((b.toNat : Int) - 48)) n = n * 10 ^ l.length + valL l := by
  induction l generalizing n with
  | nil => simp [valL]
  | cons b l ih =>
    show l.foldl _ (10 * n + ((b.toNat : Int) - 48)) = _
    have e : valL (b :: l) = ((b.toNat : Int) - 48) * 10 ^ l.length + valL l := by
      show l.foldl _ (10 * 0 + ((b.toNat : Int) - 48)) = _
      rw [ih]; simp
    rw [ih, e, List.length_cons, Int.pow_succ, Int.add_mul, Int.add_assoc]
    congr 1
    rw [Int.mul_comm 10 n, Int.mul_assoc, Int.mul_comm 10]
theorem valL_cons (b : UInt8) (l : List UInt8) : valL (b :: l) = ((b.toNat : Int) - 48) * 10 ^ l.length + valL l := by
  show l.foldl _ (10 * 0 + ((b.toNat : Int) - 48)) = _
  rw [valL_fold]; simp
theorem valL_pos {b : UInt8} {l : List UInt8} (h : (b :: l).all digB = true) (hb : b ≠ 48) : 0 < valL (b :: l) := by
  rw [List.all_cons, Bool.and_eq_true] at h
  have h1 := h.1
  unfold digB at h1
  rw [Bool.and_eq_true, decide_eq_true_eq, decide_eq_true_eq] at h1
  have h2 := (valL_bd l.length l rfl h.2).1
  have h3 : b.toNat ≠ 48 := fun e => hb (UInt8.toNat_inj.1 (by rw [e]; rfl))
  have h4 : (0 : Int) < 10 ^ l.length := by exact_mod_cast Nat.pow_pos (n := l.length) (show 0 < 10 by decide)
  have h5 : 0 < ((b.toNat : Int) - 48) * 10 ^ l.length := Int.mul_pos (by omega) h4
  rw [valL_cons]
  omega
theorem wholeOk_is (most : Nat) (l : List UInt8) : wholeOk most l = (decide (1 ≤ (digsL l).length) && decide ((digsL l).length ≤ most) && !((digsL l).head? == some 48 && (decide (1 < (digsL l).length) || minusL l)) && (digsL l).all digB) := by
  unfold wholeOk
  generalize digsL l = d
  by_cases hc : 1 ≤ d.length ∧ d.length ≤ most ∧ d.all digB = true
  · obtain ⟨h1, h2, h3⟩ := hc
    have hv := numL_yes h1 h2 h3
    have hp := (valL_bd d.length d rfl h3).1
    rw [hv, decide_eq_true hp, decide_eq_true h1, decide_eq_true h2, h3]
    match d, h1 with
    | b :: t, _ =>
      by_cases hb : b = 48
      · subst hb
        cases t with
        | nil => cases minusL l <;> rfl
        | cons c t => simp
      · have hpos := valL_pos h3 hb
        rw [decide_eq_false (show ¬ valL (b :: t) = 0 by omega)]
        have hb2 : (b == (48 : UInt8)) = false := by simpa using hb
        simp [hb2]
  · have hn : numL most d = -1 := by unfold numL; rw [if_neg hc]
    rw [hn]
    have : (decide (1 ≤ d.length) && decide (d.length ≤ most) && d.all digB) = false := by
      cases h : (decide (1 ≤ d.length) && decide (d.length ≤ most) && d.all digB) with
      | false => rfl
      | true =>
        rw [Bool.and_eq_true, Bool.and_eq_true, decide_eq_true_eq, decide_eq_true_eq] at h
        exact absurd ⟨h.1.1, h.1.2, h.2⟩ hc
    have e2 : ∀ x : Bool, (decide (1 ≤ d.length) && decide (d.length ≤ most) && x && d.all digB) = false := fun x => by
      cases x
      · simp
      · simpa using this
    rw [e2]
    rfl
end Tide
namespace Tide
open Go
theorem cutB_less {c : UInt8} : ∀ {l : List UInt8}, (cutB c l).2.2 = true → (cutB c l).2.1.length < l.length
  | [], h => by cases h
  | b :: l, h => by
    by_cases e : b = c
    · subst e; rw [cutB_eq]; show l.length < (b :: l).length; simp
    · rw [cutB_ne e] at h ⊢
      have ih := cutB_less (l := l) h
      show (cutB c l).2.1.length < (b :: l).length
      simp only [List.length_cons]; omega
theorem cutY_less {c : UInt8} {s : ByteArray} (h : cutZ c s = true) : (cutY c s).size < s.size := by
  rw [ba_size, ba_size]; exact cutB_less h
theorem piecesB_pos (c : UInt8) (s : ByteArray) : 0 < (piecesB c s).length := by rw [piecesB_many]; exact pieces_pos c _
end Tide
namespace Go.Proofs.YtidonhndeohdlaaGreatDoor
open Go.RowKit
def wOk (x : ByteArray) : Bool := Tide.wholeOk 7 x.data.toList
def wV (x : ByteArray) : Int := Tide.wholeV 7 x.data.toList
def wordsOk (ws : List ByteArray) (n : Nat) : Bool := decide (ws.length = n) && ws.all wOk
def wdPlan : ByteArray := ⟨#[112, 108, 97, 110]⟩
def wdRest : ByteArray := ⟨#[114, 101, 115, 116]⟩
def wdUp : ByteArray := ⟨#[117, 112]⟩
def wdDown : ByteArray := ⟨#[100, 111, 119, 110]⟩
def wdLag : ByteArray := ⟨#[108, 97, 103]⟩
def wdDepth : ByteArray := ⟨#[100, 101, 112, 116, 104]⟩
def wdSpan : ByteArray := ⟨#[115, 112, 97, 110]⟩
def wdSlash : ByteArray := ⟨#[47]⟩
def rowOk (word : ByteArray) (ws : List ByteArray) : Bool := decide (Tide.pieceAt ws 0 = word) && wordsOk (ws.drop 1) 4
def headOk (ws : List ByteArray) : Bool := decide (Tide.pieceAt ws 0 = wdPlan) && (decide (ws.length = 6) && (nameOk (Tide.pieceAt ws 1) && wordsOk (ws.drop 2) 4))
def crP (ps : List ByteArray) : Cr := ⟨Tide.fM ps 0, Tide.fM ps 1, Tide.fM ps 2, Tide.fM ps 3, Tide.fM ps 4, Tide.isAny ps 2, Tide.isAny ps 4⟩
def crZ : Cr := ⟨0, 0, 0, 0, 0, false, false⟩
def crOf (s : ByteArray) : Cr := crP (Tide.piecesB 32 s)
def slashAt (ws : List ByteArray) : Int := Lib.idxOfS ws wdSlash
def spanA (ws : List ByteArray) : ByteArray := Tide.joinB 32 ((ws.take (slashAt ws).toNat).drop 2)
def spanB (ws : List ByteArray) : ByteArray := Tide.joinB 32 (ws.drop ((slashAt ws).toNat + 1))
def timedOk (ws : List ByteArray) : Bool := decide (2 ≤ slashAt ws) && (wOk (Tide.pieceAt ws 1) && (Tide.cronOk (spanA ws) && Tide.cronOk (spanB ws)))
def timedN (ws : List ByteArray) : Option Trg := if timedOk ws = true then some ⟨3, wV (Tide.pieceAt ws 1), 0, crOf (spanA ws), crOf (spanB ws)⟩ else none
def twoN (kind : Int) (ws : List ByteArray) : Option Trg := if wordsOk (ws.drop 1) 2 = true then some ⟨kind, wV (Tide.pieceAt ws 1), wV (Tide.pieceAt ws 2), crZ, crZ⟩ else none
def trigN (ws : List ByteArray) : Option Trg :=
  if Tide.pieceAt ws 0 = wdLag then twoN 1 ws else if Tide.pieceAt ws 0 = wdDepth then twoN 2 ws else if Tide.pieceAt ws 0 = wdSpan then timedN ws else none
def lineN (i : Nat) (p : Pln) (ws : List ByteArray) : Option Pln :=
  match i with
  | 0 => if headOk ws = true then some { p with name := Tide.pieceAt ws 1, mn := wV (Tide.pieceAt ws 2), mx := wV (Tide.pieceAt ws 3), poll := wV (Tide.pieceAt ws 4), cool := wV (Tide.pieceAt ws 5) } else none
  | 1 => if rowOk wdRest ws = true then some { p with tol := wV (Tide.pieceAt ws 1), back := wV (Tide.pieceAt ws 2), after := wV (Tide.pieceAt ws 3), shift := wV (Tide.pieceAt ws 4) } else none
  | 2 => if rowOk wdUp ws = true then some { p with up := ⟨wV (Tide.pieceAt ws 1), wV (Tide.pieceAt ws 2), wV (Tide.pieceAt ws 3), wV (Tide.pieceAt ws 4)⟩ } else none
  | 3 => if rowOk wdDown ws = true then some { p with down := ⟨wV (Tide.pieceAt ws 1), wV (Tide.pieceAt ws 2), wV (Tide.pieceAt ws 3), wV (Tide.pieceAt ws 4)⟩ } else none
  | _ => (trigN ws).map fun t => { p with trigs := p.trigs ++ [t] }
def zeroP : Pln := ⟨⟨#[]⟩, 0, 0, 0, 0, 0, 0, 0, 0, ⟨0, 0, 0, 0⟩, ⟨0, 0, 0, 0⟩, []⟩
def wordsOf (rest : ByteArray) : List ByteArray := Tide.piecesB 32 (Tide.cutX 10 rest)
def readGo : Nat → Nat → Pln → ByteArray → Option Pln × Nat
  | 0, i, _, _ => (none, i)
  | f + 1, i, p, rest =>
    if 4 ≤ i ∧ rest.size = 0 then (some p, 0)
    else if Tide.cutZ 10 rest = false then (none, i + 1)
    else match lineN i p (wordsOf rest) with
      | none => (none, i + 1)
      | some p' => readGo f (i + 1) p' (Tide.cutY 10 rest)
def Reads (i : Nat) (p : Pln) (rest : ByteArray) (R : Option Pln × Nat) : Prop := ∃ f, rest.size < f ∧ readGo f i p rest = R
theorem Reads.whole {i : Nat} {p : Pln} {rest : ByteArray} {R : Option Pln × Nat} (h : Reads i p rest R) (h1 : 4 ≤ i) (h2 : rest.size = 0) : R = (some p, 0) := by
  obtain ⟨f, hf, rfl⟩ := h
  obtain ⟨g, rfl⟩ : ∃ g, f = g + 1 := ⟨f - 1, by omega⟩
  unfold readGo; rw [if_pos ⟨h1, h2⟩]
theorem Reads.cut {i : Nat} {p : Pln} {rest : ByteArray} {R : Option Pln × Nat} (h : Reads i p rest R) (h1 : i < 4 ∨ 0 < rest.size) (h2 : Tide.cutZ 10 rest = false) : R = (none, i + 1) := by
  obtain ⟨f, hf, rfl⟩ := h
  obtain ⟨g, rfl⟩ : ∃ g, f = g + 1 := ⟨f - 1, by omega⟩
  unfold readGo; rw [if_neg (by omega), if_pos h2]
theorem Reads.bad {i : Nat} {p : Pln} {rest : ByteArray} {R : Option Pln × Nat} (h : Reads i p rest R) (h1 : i < 4 ∨ 0 < rest.size) (h2 : Tide.cutZ 10 rest = true) (h3 : lineN i p (wordsOf rest) = none) : R = (none, i + 1) := by
  obtain ⟨f, hf, rfl⟩ := h
  obtain ⟨g, rfl⟩ : ∃ g, f = g + 1 := ⟨f - 1, by omega⟩
  unfold readGo; rw [if_neg (by omega), if_neg (by rw [h2]; simp), h3]
theorem Reads.next {i : Nat} {p p' : Pln} {rest : ByteArray} {R : Option Pln × Nat} (h : Reads i p rest R) (h1 : i < 4 ∨ 0 < rest.size) (h2 : Tide.cutZ 10 rest = true) (h3 : lineN i p (wordsOf rest) = some p') : Reads (i + 1) p' (Tide.cutY 10 rest) R := by
  obtain ⟨f, hf, rfl⟩ := h
  obtain ⟨g, rfl⟩ : ∃ g, f = g + 1 := ⟨f - 1, by omega⟩
  refine ⟨g, by have := Tide.cutY_less h2; omega, ?_⟩
  conv => rhs; unfold readGo
  rw [if_neg (by omega), if_neg (by rw [h2]; simp), h3]
def readR (s : ByteArray) : Pln × Nat × Int :=
  if 2048 < s.size then (zeroP, 0, 2)
  else match readGo (s.size + 1) 0 zeroP s with
    | (none, k) => (zeroP, k, 3)
    | (some p, _) => if planE p = 0 then (p, 0, 0) else (zeroP, 0, planE p)
theorem crP_fits (ps : List ByteArray) : (crP ps).fits := ⟨Tide.fM_lt _ _, Tide.fM_lt _ _, Tide.fM_lt _ _, Tide.fM_lt _ _, Tide.fM_lt _ _⟩
theorem crZ_fits : crZ.fits := by unfold Cr.fits crZ; decide
theorem trigN_fits {ws : List ByteArray} {t : Trg} (h : trigN ws = some t) : t.fits := by
  unfold trigN at h
  have two : ∀ {kind : Int}, twoN kind ws = some t → t.fits := fun h => by
    unfold twoN at h
    split at h
    · cases h; exact ⟨crZ_fits, crZ_fits⟩
    · cases h
  split at h
  · exact two h
  · split at h
    · exact two h
    · split at h
      · unfold timedN at h
        split at h
        · cases h; exact ⟨crP_fits _, crP_fits _⟩
        · cases h
      · cases h
theorem ite_some {c : Prop} [Decidable c] {a b : Pln} (h : (if c then some a else none) = some b) : a = b := by
  split at h
  · cases h; rfl
  · cases h
open Go.RowKit
theorem chg_cell {S : Nat → Prop} {w w' : World} (h : Tide.Chg S w w') {b : Nat} (hb : b < w.heap.size) (hs : ¬ S b) (o : Nat) : w'.cell? ⟨b, o, none⟩ = w.cell? ⟨b, o, none⟩ := by
  unfold World.cell?
  show (match w'.heap[b]? with | _ => _) = (match w.heap[b]? with | _ => _)
  rw [h.block b hb hs]
structure WdsAt (w : World) (b off : Nat) (ws : List ByteArray) : Prop where
  cell : ∀ i x, ws[i]? = some x → w.cell? ⟨b, off + i, none⟩ = some (.string x)
  lt : b < w.heap.size
theorem WdsAt.chg {C : Nat → Prop} {w w' : World} {b off : Nat} {ws : List ByteArray} (h : WdsAt w b off ws) (hc : Tide.Chg C w w') (hs : ¬ C b) : WdsAt w' b off ws :=
  ⟨fun i x hi => by
    exact (chg_cell hc h.lt hs _).trans (h.cell i x hi), Nat.lt_of_lt_of_le h.lt hc.size⟩
theorem WdsAt.below {w w' : World} {b off : Nat} {ws : List ByteArray} (h : WdsAt w b off ws) (hb : Below w.heap.size w w') : WdsAt w' b off ws :=
  h.chg (C := fun _ => False) (Tide.Chg.of_below hb (Nat.le_refl _)) (fun h => h)
theorem WdsAt.drop {w : World} {b off : Nat} {ws : List ByteArray} (h : WdsAt w b off ws) (k : Nat) : WdsAt w b (off + k) (ws.drop k) :=
  ⟨fun i x hi => by rw [List.getElem?_drop] at hi; have := h.cell _ x hi; rwa [← Nat.add_assoc] at this, h.lt⟩
theorem WdsAt.take {w : World} {b off : Nat} {ws : List ByteArray} (h : WdsAt w b off ws) (k : Nat) : WdsAt w b off (ws.take k) := by
  refine ⟨fun i x hi => ?_, h.lt⟩
  rw [List.getElem?_take] at hi
  split at hi
  · exact h.cell i x hi
  · cases hi
theorem WdsAt.of_at {w : World} {b : Nat} {T : TypeId} {ws : List ByteArray} (h : Tide.At w b T (ws.map Value.string).toArray) : WdsAt w b 0 ws :=
  ⟨fun i x hi => by rw [Nat.zero_add]; exact h.here (by rw [List.getElem?_toArray, List.getElem?_map, hi]; rfl), h.inside⟩
def setK (cs : Array Value) (os : List Nat) (ws : List ByteArray) : Nat → Array Value
  | 0 => cs
  | k + 1 => (setK cs os ws k).setIfInBounds (os.getD k 0) (.int .i64 (wV (Tide.pieceAt ws k)))
theorem setK_size (cs : Array Value) (os : List Nat) (ws : List ByteArray) : ∀ k, (setK cs os ws k).size = cs.size
  | 0 => rfl
  | k + 1 => by unfold setK; rw [Array.size_setIfInBounds]; exact setK_size cs os ws k
def ptrs (g : Nat) (os : List Nat) : Array Value := (os.map fun o => Value.pointer (some ⟨g, o, none⟩)).toArray
def NumsPost (w : World) (g : Nat) (T : TypeId) (cs : Array Value) (os : List Nat) (ws : List ByteArray) (e : Ending) (w' : World) : Prop :=
  e = .returned (.bool (wordsOk ws os.length)) ∧ (∃ k, k ≤ os.length ∧ Tide.At w' g T (setK cs os ws k) ∧ (wordsOk ws os.length = true → k = os.length)) ∧ Tide.Chg (fun b => b = g) w w'
def firstOk (ws : List ByteArray) (k : Nat) : Prop := ∀ i x, i < k → ws[i]? = some x → wOk x = true
theorem words_all {ws : List ByteArray} {n : Nat} (hn : ws.length = n) (h : firstOk ws n) : wordsOk ws n = true := by
  unfold wordsOk
  rw [decide_eq_true hn, Bool.true_and, List.all_eq_true]
  intro x hx
  obtain ⟨i, hi⟩ := List.mem_iff_getElem?.1 hx
  exact h i x (by have := Tide.get_lt hi; omega) hi
theorem words_bad {ws : List ByteArray} {n i : Nat} {x : ByteArray} (h : ws[i]? = some x) (hx : wOk x = false) : wordsOk ws n = false := by
  unfold wordsOk
  have : ws.all wOk = false := by rw [List.all_eq_false]; exact ⟨x, List.mem_of_getElem? h, by rw [hx]; simp⟩
  rw [this, Bool.and_false]
theorem words_few {ws : List ByteArray} {n : Nat} (h : ws.length ≠ n) : wordsOk ws n = false := by unfold wordsOk; rw [decide_eq_false h]; rfl
theorem firstOk_next {ws : List ByteArray} {k : Nat} {x : ByteArray} (h : firstOk ws k) (hk : ws[k]? = some x) (hx : wOk x = true) : firstOk ws (k + 1) := fun i y hi hy => by
  rcases Nat.lt_succ_iff_lt_or_eq.mp hi with h1 | h1
  · exact h i y h1 hy
  · subst h1; rw [hk] at hy; cases hy; exact hx
end Go.Proofs.YtidonhndeohdlaaGreatDoor
namespace Tide
open Go
theorem has_minus (l : List UInt8) : Lib.hasPrefix l [45] = minusL l := by
  cases l with
  | nil => rfl
  | cons b l =>
    show List.isPrefixOf [45] (b :: l) = (some b == some 45)
    rw [show List.isPrefixOf [45] (b :: l) = ((45 == b) && List.isPrefixOf [] l) from rfl]
    by_cases h : b = 45
    · subst h; rfl
    · have h1 : ((45 : UInt8) == b) = false := by simpa using fun e => h e.symm
      have h2 : (some b == some (45 : UInt8)) = false := by simpa using h
      rw [h1, h2]; rfl
theorem trim_minus (l : List UInt8) : Lib.trimPrefix l [45] = digsL l := by
  unfold Lib.trimPrefix digsL
  rw [has_minus]
  cases l <;> rfl
theorem whole_few {l : List UInt8} (h : (digsL l).length < 1 ∨ 7 < (digsL l).length) : wholeOk 7 l = false := by
  rw [wholeOk_is]
  rcases h with h | h
  · rw [decide_eq_false (show ¬ 1 ≤ (digsL l).length by omega)]; rfl
  · rw [decide_eq_false (show ¬ (digsL l).length ≤ 7 by omega), Bool.and_false]; rfl
theorem whole_nought {l : List UInt8} (h : (digsL l).head? = some 48) (h2 : 1 < (digsL l).length ∨ minusL l = true) : wholeOk 7 l = false := by
  rw [wholeOk_is, h]
  have e : (decide (1 < (digsL l).length) || minusL l) = true := by
    rcases h2 with h2 | h2
    · rw [decide_eq_true h2]; rfl
    · rw [h2, Bool.or_true]
  rw [e]
  simp
theorem whole_bad {l : List UInt8} {k : Nat} {b : UInt8} (h : (digsL l)[k]? = some b) (hb : digB b = false) : wholeOk 7 l = false := by
  rw [wholeOk_is]
  have e : (digsL l).all digB = false := by
    rw [List.all_eq_false]
    exact ⟨b, List.mem_of_getElem? h, by rw [hb]; simp⟩
  rw [e, Bool.and_false]
theorem whole_good {l : List UInt8} (h1 : 1 ≤ (digsL l).length) (h2 : (digsL l).length ≤ 7) (h3 : ¬ ((digsL l).head? = some 48 ∧ (1 < (digsL l).length ∨ minusL l = true))) (h4 : (digsL l).all digB = true) :
    wholeOk 7 l = true ∧ wholeV 7 l = if minusL l = true then -valL (digsL l) else valL (digsL l) := by
  refine ⟨?_, ?_⟩
  · rw [wholeOk_is, decide_eq_true h1, decide_eq_true h2, h4]
    have e : ((digsL l).head? == some 48 && (decide (1 < (digsL l).length) || minusL l)) = false := by
      cases hh : ((digsL l).head? == some 48) with
      | false => rfl
      | true =>
        rw [Bool.true_and]
        cases hx : (decide (1 < (digsL l).length) || minusL l) with
        | false => rfl
        | true =>
          rw [Bool.or_eq_true, decide_eq_true_eq] at hx
          exact absurd ⟨by simpa using hh, hx⟩ h3
    rw [e]; rfl
  · unfold wholeV
    rw [numL_yes h1 h2 h4]
end Tide
namespace Go.Proofs.YtidonhndeohdlaaGreatDoor
open Go.RowKit
def WholePost (s : ByteArray) (w : World) (e : Ending) (w' : World) : Prop := e = .returned (.tuple #[.int .i64 (if wOk s = true then wV s else 0), .bool (wOk s)]) ∧ w = w'
theorem whole_none {s : ByteArray} {w : World} (h : wOk s = false) : WholePost s w (.returned (.tuple #[.int .i64 0, .bool false])) w := ⟨by rw [h]; rfl, rfl⟩
theorem whole_some {s : ByteArray} {w : World} {n : Int} (h : wOk s = true) (hn : wV s = n) : WholePost s w (.returned (.tuple #[.int .i64 n, .bool true])) w := ⟨by rw [h, hn]; rfl, rfl⟩
theorem head_byte {d : ByteArray} (h : 0 < d.size) : d.data.toList.head? = some 48 ↔ byteAt d 0 = 48 := by
  obtain ⟨b, hb, hx⟩ := byte_get h
  rw [List.head?_eq_getElem?, hb, hx]
  constructor
  · intro e; cases e; rfl
  · intro e; rw [show b = 48 from UInt8.toNat_inj.1 e]
set_option maxRecDepth 100000 in
set_option maxHeartbeats 3200000 in
theorem planNumber (s : ByteArray) (hs : s.size ≤ 1000000) (w : World) : Calls Tryz.prog 85 #[.string s] w (WholePost s w) := by
  obtain ⟨d, hd⟩ : ∃ d : ByteArray, (⟨(Lib.trimPrefix s.data.toList [45]).toArray⟩ : ByteArray) = d := ⟨_, rfl⟩
  have hdd : d.data.toList = Tide.digsL s.data.toList := by rw [← hd]; show (Lib.trimPrefix _ _).toArray.toList = _; rw [List.toList_toArray, Tide.trim_minus]
  obtain ⟨mb, hmb⟩ : ∃ mb, Tide.minusL s.data.toList = mb := ⟨_, rfl⟩
  have HCut := Lib.hid (show ∀ W, Calls Tryz.prog 112 #[.string s, .string ⟨#[45]⟩] W fun e w' => e = .returned (.tuple #[.string d, .bool mb]) ∧ W = w' from fun W => by
    have h := Tryz.strings_CutPrefix s ⟨#[45]⟩ W
    rw [show (⟨#[45]⟩ : ByteArray).data.toList = [45] from rfl, hd, Tide.has_minus, hmb] at h
    exact h.mono fun _ _ q => ⟨q.1, q.2.symm⟩)
  have hsz := Tide.ba_size d
  rw [hdd] at hsz
  have HFew := Lib.hid (fun (h : d.size < 1 ∨ 7 < d.size) => whole_none (s := s) (w := w) (Tide.whole_few (by rw [← hsz]; exact h)))
  have HNou := Lib.hid (fun (h0 : 0 < d.size) (h : byteAt d 0 = 48) (h2 : 1 < d.size ∨ mb = true) => whole_none (s := s) (w := w) (Tide.whole_nought (by rw [← hdd]; exact (head_byte h0).2 h) (by rw [← hsz, hmb]; exact h2)))
  have HBad := Lib.hid (fun (k : Nat) (b : UInt8) (h : d.data.toList[k]? = some b) (hb : Tide.digB b = false) => whole_none (s := s) (w := w) (Tide.whole_bad (by rw [← hdd]; exact h) hb))
  have HGood := Lib.hid (fun (h1 : 1 ≤ d.size) (h2 : d.size ≤ 7) (h3 : ¬ (byteAt d 0 = 48 ∧ (1 < d.size ∨ mb = true))) (h4 : d.data.toList.all Tide.digB = true) => by
    obtain ⟨q1, q2⟩ := Tide.whole_good (l := s.data.toList) (by rw [← hsz]; exact h1) (by rw [← hsz]; exact h2) (by rw [← hsz, hmb, ← hdd, head_byte (by omega)]; exact h3) (by rw [← hdd]; exact h4)
    rw [hmb, ← hdd] at q2
    exact (whole_some (s := s) (w := w) q1 q2 : WholePost s w (.returned (.tuple #[.int .i64 (if mb = true then -Tide.valL d.data.toList else Tide.valL d.data.toList), .bool true])) w))
  have HZ := Lib.hid (Tide.ba_size d)
  obtain ⟨q, hq⟩ : ∃ q, (!wiB (d.size : Int) 1 7 || ((byteAt d 0 == 48) && (decide (1 < d.size) || mb))) = q := ⟨_, rfl⟩
  have HQ := Lib.hid hq
  have hdl : d.size ≤ 1000000 := by
    have h1 := HZ.out
    rw [hdd] at h1
    have h2 := Tide.ba_size s
    have : (Tide.digsL s.data.toList).length ≤ s.data.toList.length := by
      unfold Tide.digsL; split
      · rw [List.length_tail]; omega
      · exact Nat.le_refl _
    omega
  have hdl2 : (d.size : Int) ≤ 1000000 := by omega
  clear hd hdd hmb hsz hq hs hdl
  go_enter Tryz.func85, Tryz.ntmps85
  go_wp2_with fail
  refine (HCut.out _).mono ?_
  rintro e w1 ⟨rfl, rfl⟩
  clear HCut
  go_upto_region 2 with fail
  go_cut [29] (fun v wx => v = .bool q ∧ w = wx)
  case first =>
    go_wp2_with fail
    refine (planWithin (d.size : Int) 1 7 _).mono ?_
    rintro e w1 ⟨rfl, rfl⟩
    by_cases hsz : 1 ≤ d.size ∧ d.size ≤ 7
    · have hw1 : wiB (d.size : Int) 1 7 = true := wiB_iff.2 (by omega)
      rw [hw1] at HQ ⊢
      have h0 : 0 < d.size := by omega
      have i1 : (0 : Int) < (d.size : Int) := by omega
      have e7 := byte_at h0
      by_cases hx : byteAt d 0 = 48
      · rw [hx] at e7 HQ
        by_cases h1 : 1 < d.size
        · have HV := Lib.hid (show q = true by rw [← HQ.out, decide_eq_true h1]; rfl)
          have i2 : (1 : Int) < (d.size : Int) := by omega
          clear HQ hw1 hsz hx h1
          go_wp2_with fail
          go_meet
          exact ⟨by rw [HV.out] <;> rfl, rfl⟩
        · have HV := Lib.hid (show q = mb by rw [← HQ.out, decide_eq_false h1]; rfl)
          have i2 : (d.size : Int) ≤ 1 := by omega
          have i3 : decide ((1 : Int) < (d.size : Int)) = false := decide_eq_false (by omega)
          clear HQ hw1 hsz hx h1
          go_wp2_with fail
          go_meet
          exact ⟨by rw [HV.out] <;> rfl, rfl⟩
      · have HV := Lib.hid (show q = false by rw [← HQ.out, show (byteAt d 0 == 48) = false by simpa using hx]; rfl)
        clear HQ hw1 hsz
        generalize byteAt d 0 = x at hx e7
        have hx2 : ((x : Int) == 48) = false := by simp; omega
        clear hx
        go_wp2_with fail
        go_meet
        exact ⟨by rw [HV.out] <;> rfl, rfl⟩
    · have hw1 : wiB (d.size : Int) 1 7 = false := by
        cases h : wiB (d.size : Int) 1 7
        · rfl
        · have := wiB_iff.1 h; omega
      rw [hw1] at HQ ⊢
      have HV := Lib.hid (show q = true from HQ.out.symm)
      clear HQ hw1 hsz
      go_wp2_with fail
      go_meet
      exact ⟨by rw [HV.out] <;> rfl, rfl⟩
  case rest =>
    obtain ⟨rfl, rfl⟩ := hcut
    cases q
    · have hq := HQ.out
      simp only [Bool.or_eq_false_iff, Bool.not_eq_false'] at hq
      obtain ⟨hw, hq2⟩ := hq
      have hsz := wiB_iff.1 hw
      have HS := Lib.hid (show 1 ≤ d.size ∧ d.size ≤ 7 by omega)
      have HQ2 := Lib.hid (show ¬ (byteAt d 0 = 48 ∧ (1 < d.size ∨ mb = true)) from fun h => by
        rw [show (byteAt d 0 == 48) = true by simpa using h.1, Bool.true_and, Bool.or_eq_false_iff] at hq2
        rcases h.2 with h2 | h2
        · rw [decide_eq_true h2] at hq2; cases hq2.1
        · rw [h2] at hq2; cases hq2.2)
      have hd1 : (1 : Int) ≤ (d.size : Int) := hsz.1
      have hd7 : (d.size : Int) ≤ 7 := hsz.2
      clear hw hq2 hsz HQ HFew HNou
      as_aux_lemma =>
      go_wp2_with fail
      go_loop [6, 32] (fun n i => ∃ k : Nat, k ≤ d.size ∧ i = .int .i64 k ∧ n = .int .i64 (Tide.valL (d.data.toList.take k)) ∧ Hid ((d.data.toList.take k).all Tide.digB = true)) (fun _ i => d.size - (intOf i).toNat)
      case atStart => exact ⟨0, by omega, rfl, rfl, Lib.hid rfl⟩
      case round =>
        obtain ⟨k, hk, rfl, rfl, HA⟩ := hrel
        by_cases hlt : k < d.size
        · have i0 : (0 : Int) ≤ (k : Int) := by omega
          have i1 : (k : Int) < (d.size : Int) := by omega
          obtain ⟨b, hb, hx⟩ := byte_get hlt
          have hv := Tide.valL_bd k (d.data.toList.take k) (by rw [List.length_take]; have := HZ.out; omega) HA.out
          have hv2 : Tide.valL (d.data.toList.take k) < 10000000 := by
            have e : (10 : Int) ^ k ≤ 10 ^ 7 := by exact_mod_cast Nat.pow_le_pow_right (show 0 < 10 by decide) (show k ≤ 7 by omega)
            have : (10 : Int) ^ 7 = 10000000 := by decide
            omega
          have hv0 := hv.1
          have HNx := Lib.hid (fun h1 h2 => dig_snoc hb hx h1 h2 HA.out)
          have HB1 := Lib.hid (fun h => HBad.out k b hb (digB_low hx h))
          have HB2 := Lib.hid (fun h => HBad.out k b hb (digB_high hx h))
          have HLt := Lib.hid hlt
          clear hv hb hx HA
          have e7 := byte_at hlt
          have hxb := byteAt_bd d k
          generalize Tide.valL (d.data.toList.take k) = n at HNx hv0 hv2 ⊢
          generalize byteAt d k = x at HNx HB1 HB2 hxb e7 ⊢
          have x0 : (0 : Int) ≤ (x : Int) := by omega
          by_cases a1 : x < 48
          · have HF := Lib.hid (HB1.out a1)
            have a2 : (x : Int) < 48 := by omega
            clear a1 HNx HB1 HB2
            go_wp2_with fail
            go_ret2
            exact HF.out
          by_cases a2 : 57 < x
          · have HF := Lib.hid (HB2.out a2)
            have a3 : (57 : Int) < (x : Int) := by omega
            have a4 : (48 : Int) ≤ (x : Int) := by omega
            clear a1 a2 HNx HB1 HB2
            go_wp2_with fail
            go_ret2
            exact HF.out
          · have HN := Lib.hid (HNx.out (by omega) (by omega))
            have a3 : (x : Int) ≤ 57 := by omega
            have a4 : (48 : Int) ≤ (x : Int) := by omega
            have q1 : IntKind.u8.wrap ((x : Int) - 48) = (x : Int) - 48 := u8_in _ (by omega) (by omega)
            have q2 : IntKind.i64.wrap ((x : Int) - 48) = (x : Int) - 48 := IntWalk.i64_in _ (by omega)
            have q3 : IntKind.i64.wrap (10 * n) = 10 * n := IntWalk.i64_in _ (by omega)
            have q4 : IntKind.i64.wrap (10 * n + ((x : Int) - 48)) = 10 * n + ((x : Int) - 48) := IntWalk.i64_in _ (by omega)
            clear a1 a2 HNx HB1 HB2
            go_wp2_with fail
            go_round
            case rel => exact ⟨k + 1, by have := HLt.out; omega, by go_num, by rw [HN.out.2], Lib.hid HN.out.1⟩
            case measure => have := HLt.out; simp [intOf]; omega
        · have hke : k = d.size := by omega
          subst hke
          have e : d.data.toList.take d.size = d.data.toList := by rw [HZ.out, List.take_length]
          have h3 := HA.out
          rw [e] at h3 ⊢
          have hv := Tide.valL_bd d.data.toList.length d.data.toList rfl h3
          have hv2 : Tide.valL d.data.toList < 10000000 := by
            have e2 : (10 : Int) ^ d.data.toList.length ≤ 10 ^ 7 := by exact_mod_cast Nat.pow_le_pow_right (show 0 < 10 by decide) (show d.data.toList.length ≤ 7 by have := HZ.out; have := HS.out; omega)
            have : (10 : Int) ^ 7 = 10000000 := by decide
            omega
          have hv0 := hv.1
          have HF := Lib.hid (HGood.out HS.out.1 HS.out.2 HQ2.out h3)
          clear hv h3 e hlt hk HA
          generalize Tide.valL d.data.toList = n at hv0 hv2 HF ⊢
          have q1 : IntKind.i64.wrap (-n) = -n := IntWalk.i64_in _ (by omega)
          cases mb
          · go_wp2_with fail
            go_ret2
            exact HF.out
          · go_wp2_with fail
            go_ret2
            exact HF.out
    · have HF := Lib.hid (show WholePost s w (.returned (.tuple #[.int .i64 0, .bool false])) w by
        have hq := HQ.out
        by_cases hsz : d.size < 1 ∨ 7 < d.size
        · exact HFew.out hsz
        · rw [show wiB (d.size : Int) 1 7 = true from wiB_iff.2 (by omega)] at hq
          simp only [Bool.not_true, Bool.false_or, Bool.and_eq_true, Bool.or_eq_true, decide_eq_true_eq, beq_iff_eq] at hq
          exact HNou.out (by omega) hq.1 hq.2)
      clear HQ HFew HNou
      go_wp2_with fail
      go_ret2
      exact HF.out
end Go.Proofs.YtidonhndeohdlaaGreatDoor
