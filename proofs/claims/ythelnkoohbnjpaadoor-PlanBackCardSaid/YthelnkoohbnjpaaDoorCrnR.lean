/- The contract of (cron.field).read. -/
import Derived.Test.YthelnkoohbnjpaaDoorZTxt
import Derived.Test.YthelnkoohbnjpaaDoorCrnI
import Derived.RegionTactic
set_option linter.unusedVariables false
set_option linter.unusedSimpArgs false
namespace Go.Proofs.YthelnkoohbnjpaaDoor
open Go.RowKit
set_option linter.unusedVariables false
def anyV (g : Nat) : Option Nat → Value
  | none => .pointer none
  | some j => .pointer (some ⟨g, j, none⟩)
def anyPut (an : Option Nat) (b : Bool) (c : Array Value) : Array Value := match an, b with
  | some j, true => c.setIfInBounds j (.bool true)
  | _, _ => c
def fieldV (g k : Nat) (an : Option Nat) : Array Value := #[.pointer (some ⟨g, k, none⟩), .int .i64 (Tide.lim k).1, .int .i64 (Tide.lim k).2, anyV g an]
structure RdS (w0 W : World) (g : Nat) (c : Array Value) (B : Nat) (bx : Array Value) : Prop where
  row : Tide.At W g 24 c
  box : Tide.At W B 61 bx
  chg : Tide.Chg (fun b => b = g) w0 W
  lo : w0.heap.size ≤ B
def ReadPost (k g : Nat) (an : Option Nat) (s : ByteArray) (c : Array Value) (w : World) (e : Ending) (w' : World) : Prop := ∃ c', e = .returned (.bool (Tide.fieldOk (Tide.lim k).1 (Tide.lim k).2 s)) ∧ Tide.At w' g 24 c' ∧ Tide.Chg (fun b => b = g) w w' ∧ (Tide.fieldOk (Tide.lim k).1 (Tide.lim k).2 s = true → c' = anyPut an (s.toList == [42]) (c.setIfInBounds k (.int .u64 (Tide.fieldN (Tide.lim k).1 (Tide.lim k).2 s : Nat))))
theorem RdS.put {w0 W : World} {g B k : Nat} {c bx : Array Value} (h : RdS w0 W g c B bx) (u : Value) : RdS w0 (W.setCell ⟨g, k, none⟩ u) g (c.setIfInBounds k u) B bx :=
  ⟨h.row.put k u, h.box.other (fun e => h.row.apart h.box (by decide) e.symm) u, h.chg.put (.inl rfl) u, h.lo⟩
theorem all5 {w0 W : World} {g B k : Nat} {an : Option Nat} {c : Array Value} (h : RdS w0 W g c B (fieldV g k an)) : Calls Tryd.prog 40 #[.agg (fieldV g k an)] W fun e w' => e = .returned (.int .u64 (Tide.allN (Tide.lim k).1 (Tide.lim k).2 : Nat)) ∧ RdS w0 w' g c B (fieldV g k an) ∧
    w'.cell? ⟨B, 0, none⟩ = some (.pointer (some ⟨g, k, none⟩)) ∧ w'.cell? ⟨B, 1, none⟩ = some (.int .i64 ((Tide.lim k).1 : Nat)) ∧ w'.cell? ⟨B, 2, none⟩ = some (.int .i64 ((Tide.lim k).2 : Nat)) ∧ w'.cell? ⟨B, 3, none⟩ = some (anyV g an) ∧ w'.frozen? ⟨g, k, none⟩ = false ∧ w'.cell? ⟨g, k, none⟩ = c[k]? :=
  (cronAll (Tide.lim k).1 (Tide.lim k).2 _ _ W (Tide.lim_le k).1 (Tide.lim_le k).2).mono fun _ w' ⟨he, hb⟩ =>
    have hr : RdS w0 w' g c B (fieldV g k an) := ⟨h.row.below hb h.row.inside, h.box.below hb h.box.inside, h.chg.step_below hb h.chg.size, h.lo⟩
    ⟨he, hr, hr.box.here rfl, hr.box.here rfl, hr.box.here rfl, hr.box.here rfl, hr.row.soft k, by
      cases hc : c[k]? with
      | none => exact (cell_of_row w' g k c 24 (0, 0) hr.row).trans hc
      | some v => exact hr.row.here hc⟩
theorem RdS.below {w0 W W' : World} {g B : Nat} {c bx : Array Value} (h : RdS w0 W g c B bx) (hb : Below W.heap.size W W') : RdS w0 W' g c B bx :=
  ⟨h.row.below hb h.row.inside, h.box.below hb h.box.inside, h.chg.step_below hb h.chg.size, h.lo⟩
theorem set_set {c : Array Value} {k : Nat} {u v : Value} : (c.setIfInBounds k u).setIfInBounds k v = c.setIfInBounds k v := by
  apply Array.ext_getElem?
  intro i
  by_cases e : k = i
  · subst e
    by_cases h : k < c.size
    · rw [Array.getElem?_setIfInBounds_self_of_lt h, Array.getElem?_setIfInBounds_self_of_lt (by simpa using h)]
    · rw [Array.getElem?_eq_none (by simp; omega), Array.getElem?_eq_none (by simp; omega)]
  · rw [Array.getElem?_setIfInBounds_ne e, Array.getElem?_setIfInBounds_ne e, Array.getElem?_setIfInBounds_ne e]
theorem set_self {c : Array Value} {k : Nat} {v : Value} (h : c[k]? = some v) : c.setIfInBounds k v = c := by
  apply Array.ext_getElem?
  intro i
  by_cases e : k = i
  · subst e
    obtain ⟨h1, h2⟩ := Array.getElem?_eq_some_iff.1 h
    rw [Array.getElem?_setIfInBounds_self_of_lt h1, h]
  · rw [Array.getElem?_setIfInBounds_ne e]
structure RdRun (k g : Nat) (an : Option Nat) (s : ByteArray) (c : Array Value) (w wr : World) (q kk : Nat) : Prop where
  rds : RdS w wr g (c.setIfInBounds k (.int .u64 (Tide.maskN (Tide.itemsN (Tide.lim k).1 (Tide.lim k).2 ((Tide.piecesB 44 s).take kk)) : Nat))) w.heap.size (fieldV g k an)
  list : Tide.At wr q 9 ((Tide.piecesB 44 s).map Value.string).toArray
  good : ∀ p ∈ (Tide.piecesB 44 s).take kk, Tide.itemN (Tide.lim k).1 (Tide.lim k).2 p ≠ []
theorem RdRun.below {k g : Nat} {an : Option Nat} {s : ByteArray} {c : Array Value} {w wr w' : World} {q kk : Nat} (h : RdRun k g an s c w wr q kk) (hb : Below wr.heap.size wr w') : RdRun k g an s c w w' q kk :=
  ⟨h.rds.below hb, h.list.below hb h.list.inside, h.good⟩
theorem RdRun.next {k g : Nat} {an : Option Nat} {s p : ByteArray} {c : Array Value} {w wr : World} {q kk : Nat} (h : RdRun k g an s c w wr q kk) (hp : (Tide.piecesB 44 s)[kk]? = some p) (hn : Tide.itemN (Tide.lim k).1 (Tide.lim k).2 p ≠ []) :
    RdRun k g an s c w (wr.setCell ⟨g, k, none⟩ (.int .u64 (Tide.maskN (Tide.itemsN (Tide.lim k).1 (Tide.lim k).2 ((Tide.piecesB 44 s).take kk)) ||| Tide.maskN (Tide.itemN (Tide.lim k).1 (Tide.lim k).2 p) : Nat))) q (kk + 1) := by
  refine ⟨?_, h.list.other (fun e => h.rds.row.apart h.list (by decide) e.symm) _, ?_⟩
  · rw [Tide.take_of_get hp, Tide.itemsN_snoc, Tide.maskN_append]
    have := h.rds.put (k := k) (.int .u64 (Tide.maskN (Tide.itemsN (Tide.lim k).1 (Tide.lim k).2 ((Tide.piecesB 44 s).take kk)) ||| Tide.maskN (Tide.itemN (Tide.lim k).1 (Tide.lim k).2 p) : Nat))
    rwa [set_set] at this
  · rw [Tide.take_of_get hp]
    intro x hx
    rcases List.mem_append.1 hx with hx | hx
    · exact h.good x hx
    · rw [List.mem_singleton.1 hx]; exact hn
set_option maxRecDepth 100000 in
set_option maxHeartbeats 3200000 in
theorem cronRead (k g : Nat) (an : Option Nat) (s : ByteArray) (c : Array Value) (m : Int) (w : World) (hs : s.size ≤ 1000000) (hm : w.cell? ⟨0, 0, none⟩ = some (.int .i64 m))
    (hg : 0 ≠ g) (hA : Tide.At w g 24 c) (hc : c[k]? = some (.int .u64 0)) (ha : ∀ j, an = some j → ∃ b, c[j]? = some (.bool b) ∧ j ≠ k) :
    Calls Tryd.prog 28 #[.agg (fieldV g k an), .string s] w (ReadPost k g an s c w) := by
  have hB := Tide.At.made w 61 (fieldV g k an)
  have hR : RdS w (w.alloc (.cells (fieldV g k an) 61)) g c w.heap.size (fieldV g k an) := ⟨hA.alloc _, hB, (Tide.Chg.refl _ _).alloc _, Nat.le_refl _⟩
  have x0 : (w.alloc (.cells (fieldV g k an) 61)).cell? ⟨w.heap.size, 0, none⟩ = some (.pointer (some ⟨g, k, none⟩)) := hB.here (i := 0) rfl
  have x1 : (w.alloc (.cells (fieldV g k an) 61)).cell? ⟨w.heap.size, 1, none⟩ = some (.int .i64 ((Tide.lim k).1 : Nat)) := hB.here (i := 1) rfl
  have x2 : (w.alloc (.cells (fieldV g k an) 61)).cell? ⟨w.heap.size, 2, none⟩ = some (.int .i64 ((Tide.lim k).2 : Nat)) := hB.here (i := 2) rfl
  have x3 : (w.alloc (.cells (fieldV g k an) 61)).cell? ⟨w.heap.size, 3, none⟩ = some (anyV g an) := hB.here (i := 3) rfl
  by_cases hst : (s.toList == [42]) = true
  · have hss : s = Tide.star := by
      apply Tide.ba_ext
      rw [← ByteArray.toList_eq s, eq_of_beq hst]; rfl
    have hok := Tide.star_field k
    have HQ := Lib.hid (fun (c' : Array Value) (w' : World) (h1 : Tide.At w' g 24 c') (h2 : Tide.Chg (fun b => b = g) w w') (h3 : c' = anyPut an true (c.setIfInBounds k (.int .u64 (Tide.allN (Tide.lim k).1 (Tide.lim k).2 : Nat)))) => (show ReadPost k g an s c w (.returned (.bool true)) w' from ⟨c', by rw [hss, hok.1], h1, h2, fun _ => by rw [hst, hss, hok.2]; exact h3⟩))
    have y0 := hR.row.here hc
    have y1 := hR.row.soft k
    clear hok hss hm hs
    go_enter Tryd.func28, Tryd.ntmps28
    go_upto_region 2 with fail
    generalize w.alloc (.cells (fieldV g k an) 61) = W at *
    have hR2 : RdS w W.drew g c w.heap.size (fieldV g k an) := ⟨hR.row.drew, hR.box.drew, hR.chg.drew, hR.lo⟩
    go_region_with (go_at_call 40; refine (all5 (w0 := w) (an := an) (by assumption)).mono ?_; rintro e w1 ⟨rfl, hR1, z0, z1, z2, z3, z4, z5⟩)
    all_goals
      have HR := Lib.hid (hR1.put (k := k) (.int .u64 (Tide.allN (Tide.lim k).1 (Tide.lim k).2 : Nat)))
      clear hR hR2 hR1 x0 x1 x2 x3 y0 y1 z0 z1 z2 z3 z4 z5 hB
      generalize w1.setCell ⟨g, k, none⟩ (.int .u64 (Tide.allN (Tide.lim k).1 (Tide.lim k).2 : Nat)) = W2 at HR ⊢
      cases an with
      | none =>
        have x3 : W2.cell? ⟨w.heap.size, 3, none⟩ = some (.pointer none) := HR.out.box.here (i := 3) rfl
        have HF := Lib.hid (HQ.out _ W2 HR.out.row HR.out.chg rfl)
        clear HR HQ
        go_wp2_with fail
        go_ret
        exact HF.out
      | some j =>
        have x3 : W2.cell? ⟨w.heap.size, 3, none⟩ = some (.pointer (some ⟨g, j, none⟩)) := HR.out.box.here (i := 3) rfl
        obtain ⟨b, hb, hjk⟩ := ha j rfl
        have x4 : W2.cell? ⟨g, j, none⟩ = some (.bool b) := HR.out.row.here (by rw [Array.getElem?_setIfInBounds_ne (Ne.symm hjk)]; exact hb)
        have x5 := HR.out.row.soft j
        have HF := Lib.hid (HQ.out _ _ (HR.out.row.put j (.bool true)) (HR.out.chg.put (.inl rfl) (.bool true)) rfl)
        clear HR HQ
        go_wp2_with fail
        go_ret
        exact HF.out
  · have hst' : (s.toList == [42]) = false := by simpa using hst
    have HR := Lib.hid hR
    have HS := Lib.hid hs
    have HM := Lib.hid hm
    have hmax := World.block_lt_of_cell? _ _ hm
    have HPS := Lib.hid (fun p (hp : p ∈ Tide.piecesB 44 s) => (Tide.piecesB_le hp : p.size ≤ s.size))
    have hfew := Tide.piecesB_few 44 s
    clear hst hR hB hm hs x0 x1 x2 x3
    go_enter Tryd.func28, Tryd.ntmps28
    go_wp2_with fail
    refine (shlSplit 44 s m _ HS.out (((Below.refl w.heap.size w).alloc (Nat.le_refl _) (.cells (fieldV g k an) 61)).cell (p := ⟨0, 0, none⟩) hmax |>.trans HM.out)).mono ?_
    rintro e w1 ⟨rfl, rfl⟩
    have HN := Lib.hid (show RdRun k g an s c w ((w.alloc (.cells (fieldV g k an) 61)).alloc (.cells ((Tide.piecesB 44 s).map Value.string).toArray 9)) (w.alloc (.cells (fieldV g k an) 61)).heap.size 0 from ⟨by
      have e : c.setIfInBounds k (.int .u64 (Tide.maskN (Tide.itemsN (Tide.lim k).1 (Tide.lim k).2 ((Tide.piecesB 44 s).take 0)) : Nat)) = c := set_self hc
      rw [e]
      exact HR.out.below ((Below.refl _ _).alloc (Nat.le_refl _) _), Tide.At.made _ _ _, by simp⟩)
    have hq := World.size_alloc w (.cells (fieldV g k an) 61)
    clear HR
    generalize ((w.alloc (.cells (fieldV g k an) 61)).alloc (.cells ((Tide.piecesB 44 s).map Value.string).toArray 9)) = W1 at HN ⊢
    generalize (w.alloc (.cells (fieldV g k an) 61)).heap.size = q at HN hq ⊢
    have HGet := Lib.hid (fun kk => Tide.get_some (Tide.piecesB 44 s) (i := kk))
    obtain ⟨n, Hn⟩ : ∃ n, Hid ((Tide.piecesB 44 s).length = n) := ⟨_, Lib.hid rfl⟩
    have hn0 := HS.out
    rw [Hn.out] at hfew ⊢
    have hn1 : (n : Int) ≤ 1000001 := by omega
    have h61 := (Tide.lim_le k).1; have h62 := (Tide.lim_le k).2
    have HC0 := Lib.hid hc
    clear hq hn0 hfew hc
    go_wp2_with fail
    go_loopw [24] (fun x wr => ∃ kk : Nat, kk ≤ n ∧ x = .int .i64 kk ∧ Hid (RdRun k g an s c w wr q kk)) (fun x _ => n - (intOf x).toNat)
    case atStart => exact ⟨0, by omega, rfl, HN⟩
    case round =>
      clear HN
      obtain ⟨kk, hkk, rfl, HN⟩ := hrel
      have i0 : (0 : Int) ≤ (kk : Int) := by omega
      by_cases hlt : kk < n
      · have i1 : (kk : Int) < (n : Int) := by omega
        obtain ⟨p, hp⟩ := HGet.out kk (by have := Hn.out; omega)
        have HPs := Lib.hid (show p.size ≤ 1000000 by have := HPS.out p (List.mem_of_getElem? hp); have := HS.out; omega)
        have y0 : wr.cell? ⟨q, kk, none⟩ = some (.string p) := HN.out.list.here (by rw [List.getElem?_toArray, List.getElem?_map, hp]; rfl)
        have x0 : wr.cell? ⟨w.heap.size, 0, none⟩ = some (.pointer (some ⟨g, k, none⟩)) := HN.out.rds.box.here (i := 0) rfl
        have x1 : wr.cell? ⟨w.heap.size, 1, none⟩ = some (.int .i64 ((Tide.lim k).1 : Nat)) := HN.out.rds.box.here (i := 1) rfl
        have x2 : wr.cell? ⟨w.heap.size, 2, none⟩ = some (.int .i64 ((Tide.lim k).2 : Nat)) := HN.out.rds.box.here (i := 2) rfl
        have x3 : wr.cell? ⟨w.heap.size, 3, none⟩ = some (anyV g an) := HN.out.rds.box.here (i := 3) rfl
        have HP := Lib.hid hp
        have HLt := Lib.hid hlt
        clear hp hlt
        go_wp2_with fail
        refine (cronItem (Tide.lim k).1 (Tide.lim k).2 _ _ p m _ HPs.out (by omega) (by omega) ((World.cell?_of_block (w := w) (a := ⟨0, 0, none⟩) (HN.out.rds.chg.block _ hmax hg)).trans HM.out)).mono ?_
        rintro e w2 ⟨rfl, hb2⟩
        have HN2 := Lib.hid (HN.out.below hb2)
        clear hb2 HN x0 x1 x2 x3 y0
        by_cases hnil : Tide.itemN (Tide.lim k).1 (Tide.lim k).2 p = []
        · have HF := Lib.hid (show ReadPost k g an s c w (.returned (.bool false)) w2 from ⟨_, by rw [Tide.fieldOk_bad HP.out hnil], HN2.out.rds.row, HN2.out.rds.chg, fun h => by rw [Tide.fieldOk_bad HP.out hnil] at h; cases h⟩)
          rw [hnil, show Tide.maskN [] = 0 from rfl]
          clear hnil HN2
          go_wp2_with fail
          go_ret
          exact HF.out
        · have HX := Lib.hid (HN2.out.next HP.out hnil)
          have HM0 := Lib.hid (fun h => hnil (Tide.maskN_zero h))
          have m1 := Tide.mask_items_lt (first := (Tide.lim k).1) (Tide.lim_le k).2 ((Tide.piecesB 44 s).take kk)
          have m2 := Tide.maskN_lt (ns := Tide.itemN (Tide.lim k).1 (Tide.lim k).2 p) (fun n hn => by have := Tide.itemN_in (first := ((Tide.lim k).1 : Int)) (by omega) n hn; omega)
          have HO := Lib.hid (Tide.or_u64 _ _ m1 m2)
          have z0 := HN2.out.rds.row.here (i := k) (by
            obtain ⟨h1, _⟩ := Array.getElem?_eq_some_iff.1 HC0.out
            exact Array.getElem?_setIfInBounds_self_of_lt h1)
          have z1 := HN2.out.rds.row.soft k
          have x0 : w2.cell? ⟨w.heap.size, 0, none⟩ = some (.pointer (some ⟨g, k, none⟩)) := HN2.out.rds.box.here (i := 0) rfl
          have HNe := Lib.hid (show ((Tide.maskN (Tide.itemN (Tide.lim k).1 (Tide.lim k).2 p) : Nat) : Int) ≠ 0 from fun e => HM0.out (by omega))
          clear hnil HN2 HM0 m1 m2
          generalize Tide.maskN (Tide.itemN (Tide.lim k).1 (Tide.lim k).2 p) = M at HX HO HNe ⊢
          generalize Tide.maskN (Tide.itemsN (Tide.lim k).1 (Tide.lim k).2 ((Tide.piecesB 44 s).take kk)) = M0 at HX HO z0 ⊢
          have hne := HNe.out
          rw [← HO.out] at HX
          clear HO HNe
          go_wp2_with fail
          go_roundw
          case rel => exact ⟨kk + 1, HLt.out, by go_num, HX⟩
          case measure => have := HLt.out; simp [intOf]; omega
      · have hke : kk = n := by omega
        have HF := Lib.hid (show ReadPost k g an s c w (.returned (.bool true)) wr from by
          have h1 := HN.out.rds; have h2 := HN.out.good
          rw [hke, ← Hn.out, List.take_length] at h1 h2
          exact ⟨_, by rw [Tide.fieldOk_good h2], h1.row, h1.chg, fun _ => by rw [hst']; cases an <;> rfl⟩)
        have i1 : (n : Int) ≤ (kk : Int) := by omega
        clear HN hke hkk hlt
        go_wp2_with fail
        go_ret
        exact HF.out
end Go.Proofs.YthelnkoohbnjpaaDoor
