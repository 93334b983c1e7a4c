/- The contract of the reference's ReadCron. -/
import Derived.Test.YthelnkoohbnjpaaDoorCrnP
import Derived.Test.YthelnkoohbnjpaaDoorRdiC
import Derived.Test.YthelnkoohbnjpaaDoorSekC
set_option linter.unusedVariables false
set_option linter.unusedSimpArgs false
namespace Go.Proofs.YthelnkoohbnjpaaDoor
open Go.RowKit
set_option linter.unusedVariables false
/-- the pieces as the library would cut them -/
def PcsPost (c : UInt8) (s : ByteArray) (w : World) (e : Ending) (w' : World) : Prop := ∃ (g cap : Nat), e = .returned (.slice (some ⟨g, 0, none⟩) (Tide.piecesB c s).length cap) ∧ Tide.RowIn w' g 9 (cap * 1) ((Tide.piecesB c s).map Value.string) ∧ Below w.heap.size w w' ∧ (Tide.piecesB c s).length ≤ cap ∧ cap ≤ maxLen
theorem refPcs (c : UInt8) (s : ByteArray) (hs : s.size ≤ 1000000) (w : World) : Calls Tryd.prog 29 #[.string s, .int .u8 (c.toNat : Int)] w (PcsPost c s w) :=
  (refPieces c s hs w).mono fun e w' h => by
    obtain ⟨v, ps, rfl, hd, hr, hb⟩ := h
    obtain rfl := Tide.pieces_isB hd
    have hpos : 0 < (Tide.piecesB c s).length := by rw [Tide.piecesB_many]; exact Tide.pieces_pos _ _
    obtain ⟨g, cap, rfl, hg, h1, h2, hrow⟩ := hr.form hpos
    exact ⟨g, cap, rfl, hrow, hb, h1, h2⟩
def rv (ps : List ByteArray) (i M e : Nat) : Nat := if e < i then Tide.fM ps e else if e = i then M else 0
/-- a cron of which i fields have been read, and the i-th is M so far -/
def rowR (ps : List ByteArray) (i M : Nat) : Array Value := #[.int .u64 (rv ps i M 0 : Nat), .int .u64 (rv ps i M 1 : Nat), .int .u64 (rv ps i M 2 : Nat), .int .u64 (rv ps i M 3 : Nat), .int .u64 (rv ps i M 4 : Nat), .bool false, .bool false]
theorem rowR_set (ps : List ByteArray) (i M M' : Nat) (hi : i < 5) : (rowR ps i M).setIfInBounds i (.int .u64 (M' : Nat)) = rowR ps i M' := by
  match i, hi with
  | 0, _ => simp [rowR, rv]
  | 1, _ => simp [rowR, rv]
  | 2, _ => simp [rowR, rv]
  | 3, _ => simp [rowR, rv]
  | 4, _ => simp [rowR, rv]
theorem rowR_next (ps : List ByteArray) (i : Nat) (hi : i < 5) : rowR ps i (Tide.fM ps i) = rowR ps (i + 1) 0 := by
  match i, hi with
  | 0, _ => simp [rowR, rv]
  | 1, _ => simp [rowR, rv]
  | 2, _ => simp [rowR, rv]
  | 3, _ => simp [rowR, rv]
  | 4, _ => simp [rowR, rv]
theorem rowR_zero (ps : List ByteArray) : rowR ps 0 0 = zeroV := rfl
theorem rowR_cell (ps : List ByteArray) (i M : Nat) (hi : i < 5) : (rowR ps i M)[i]? = some (.int .u64 (M : Nat)) := by
  match i, hi with
  | 0, _ => rfl
  | 1, _ => rfl
  | 2, _ => rfl
  | 3, _ => rfl
  | 4, _ => rfl
theorem rowR_end (ps : List ByteArray) : ((rowR ps 5 0).setIfInBounds 5 (.bool (Tide.isAny ps 2))).setIfInBounds 6 (.bool (Tide.isAny ps 4)) = partV ps 5 := by
  simp [rowR, rv, partV, pm, pa]
def limV : Array Value := #[.int .i64 0, .int .i64 59, .int .i64 0, .int .i64 23, .int .i64 1, .int .i64 31, .int .i64 1, .int .i64 12, .int .i64 0, .int .i64 6]
def ptrV (g : Nat) : Array Value := #[.pointer (some ⟨g, 0, none⟩), .pointer (some ⟨g, 1, none⟩), .pointer (some ⟨g, 2, none⟩), .pointer (some ⟨g, 3, none⟩), .pointer (some ⟨g, 4, none⟩)]
/-- the world of the reading: r the result, q the pieces, h the limits, p the places, g the cron -/
structure RR (s : ByteArray) (w wr : World) (r q cq h p g i M : Nat) : Prop where
  below : Below w.heap.size w wr
  res : Tide.At wr r 24 zeroV
  list : Tide.RowIn wr q 9 (cq * 1) ((Tide.piecesB 32 s).map Value.string)
  lim : Tide.At wr h 71 limV
  ptr : Tide.At wr p 58 (ptrV g)
  row : Tide.At wr g 24 (rowR (Tide.piecesB 32 s) i M)
  hr : w.heap.size ≤ r
  rg : r < g
  gp : g ≠ p
theorem RR.belowS {s : ByteArray} {w wr w' : World} {r q cq h p g i M : Nat} (H : RR s w wr r q cq h p g i M) {B : Nat} (hb : Below B wr w') (hB : wr.heap.size ≤ B) : RR s w w' r q cq h p g i M :=
  ⟨H.below.trans (hb.mono (by have := H.below.size; omega)), H.res.below hb (by have := H.res.inside; omega), H.list.below hb (by have := H.list.inside; omega), H.lim.below hb (by have := H.lim.inside; omega), H.ptr.below hb (by have := H.ptr.inside; omega), H.row.below hb (by have := H.row.inside; omega), H.hr, H.rg, H.gp⟩
theorem RR.drew {s : ByteArray} {w wr : World} {r q cq h p g i M : Nat} (H : RR s w wr r q cq h p g i M) : RR s w wr.drew r q cq h p g i M :=
  ⟨H.below.drew, H.res.drew, H.list.drew, H.lim.drew, H.ptr.drew, H.row.drew, H.hr, H.rg, H.gp⟩
theorem RR.put {s : ByteArray} {w wr : World} {r q cq h p g i M : Nat} (H : RR s w wr r q cq h p g i M) (hi : i < 5) (M' : Nat) : RR s w (wr.setCell ⟨g, i, none⟩ (.int .u64 (M' : Nat))) r q cq h p g i M' :=
  ⟨H.below.setCell (by have := H.hr; have := H.rg; show w.heap.size ≤ g; omega) _, H.res.other (fun e => by have := H.rg; have e2 : r = g := e; omega) _, H.list.other (fun e => H.list.apartAt H.row (by decide) e) _, H.lim.other (fun e => H.lim.apart H.row (by decide) e) _, H.ptr.other (fun e => H.gp e.symm) _, by
    rw [← rowR_set _ i M M' hi]; exact H.row.put i _, H.hr, H.rg, H.gp⟩
theorem RR.step {s : ByteArray} {w wr : World} {r q cq h p g i : Nat} (H : RR s w wr r q cq h p g i (Tide.fM (Tide.piecesB 32 s) i)) (hi : i < 5) : RR s w wr r q cq h p g (i + 1) 0 :=
  ⟨H.below, H.res, H.list, H.lim, H.ptr, by rw [← rowR_next _ i hi]; exact H.row, H.hr, H.rg, H.gp⟩
theorem lim_at {w : World} {h : Nat} (ha : Tide.At w h 71 limV) (i : Nat) (hi : i < 5) : w.cell? ⟨h, i * 2, none⟩ = some (.int .i64 ((Tide.lim i).1 : Nat)) ∧ w.cell? ⟨h, i * 2 + 1, none⟩ = some (.int .i64 ((Tide.lim i).2 : Nat)) := by
  match i, hi with
  | 0, _ => exact ⟨ha.here rfl, ha.here rfl⟩
  | 1, _ => exact ⟨ha.here rfl, ha.here rfl⟩
  | 2, _ => exact ⟨ha.here rfl, ha.here rfl⟩
  | 3, _ => exact ⟨ha.here rfl, ha.here rfl⟩
  | 4, _ => exact ⟨ha.here rfl, ha.here rfl⟩
theorem ptr_at {w : World} {p g : Nat} (ha : Tide.At w p 58 (ptrV g)) (i : Nat) (hi : i < 5) : w.cell? ⟨p, i, none⟩ = some (.pointer (some ⟨g, i, none⟩)) := by
  match i, hi with
  | 0, _ => exact ha.here rfl
  | 1, _ => exact ha.here rfl
  | 2, _ => exact ha.here rfl
  | 3, _ => exact ha.here rfl
  | 4, _ => exact ha.here rfl
set_option maxRecDepth 100000 in
set_option maxHeartbeats 3200000 in
theorem refReadCron (s : ByteArray) (w : World) : Calls Tryd.prog 10 #[.string s] w (ParsePost s w) := by
  have hb0 := (Below.refl w.heap.size w).alloc (Nat.le_refl _) (.cells zeroV 24)
  have hr0 := Tide.At.made w 24 zeroV
  by_cases hlen : 300 < s.size
  · have hl : (300 : Int) < (s.size : Int) := by omega
    have HF := Lib.hid (fun w' hb => parse_long (w := w) (w' := w') hlen hb)
    have HB := Lib.hid hb0
    clear hlen hb0 hr0
    go_enter Tryd.func10, Tryd.ntmps10
    go_wp2_with fail
    refine bodyPost_ret (v := .tuple #[.agg zeroV, .int .i64 2]) (by simp [results, Tryd.results10, go_sem, zeroV]) rfl (HF.out _ ?_)
    exact HB.out
  · have hl : (s.size : Int) ≤ 300 := by omega
    have hl2 : s.size ≤ 300 := by omega
    have hs : s.size ≤ 1000000 := by omega
    have HS := Lib.hid hs; have HL2 := Lib.hid hl2
    have HB0 := Lib.hid hb0; have HR0 := Lib.hid hr0
    have HBad := Lib.hid (fun w' h hb => parse_bad (w := w) (w' := w') (s := s) h hl2 hb)
    have HGood := Lib.hid (fun w' h hb => parse_good (w := w) (w' := w') (s := s) h hl2 hb)
    have hfew := Tide.piecesB_few 32 s
    have HPS := Lib.hid (fun p (hp : p ∈ Tide.piecesB 32 s) => (Tide.piecesB_le hp : p.size ≤ s.size))
    have HGet := Lib.hid (fun kk => Tide.get_some (Tide.piecesB 32 s) (i := kk))
    obtain ⟨n, Hn⟩ : ∃ n, Hid ((Tide.piecesB 32 s).length = n) := ⟨_, Lib.hid rfl⟩
    have hn1 : (n : Int) ≤ 1000001 := by have := Hn.out; omega
    clear hlen hs hl2 hb0 hr0 hfew
    go_enter Tryd.func10, Tryd.ntmps10
    go_wp2_with fail
    refine (refPcs 32 s HS.out _).mono ?_
    rintro e w1 ⟨q, cq, rfl, hrow, hb1, hcq, hcq2⟩
    rw [Hn.out] at hcq ⊢
    have HQ := Lib.hid hrow
    have HB1 := Lib.hid (HB0.out.trans (hb1.mono HB0.out.size))
    have HR1 := Lib.hid (HR0.out.below hb1 HR0.out.inside)
    clear hrow hb1 HB0 HR0
    obtain ⟨r, Hr⟩ : ∃ r, Hid (w.heap.size = r) := ⟨_, Lib.hid rfl⟩
    rw [Hr.out] at HR1 ⊢
    have HPr := Lib.hid (show w.heap.size ≤ r by have := Hr.out; omega)
    by_cases h5 : n = 5
    · subst h5
      go_wp2_with fail
      refine (refSets ⟨0, 0, 0, 0, 0, false, false⟩ _).mono ?_
      rintro e w3 ⟨a, h, d, rfl, _, hB, _, hb3⟩
      have hg0 := Tide.At.made w1 24 zeroV
      have HB3 := Lib.hid ((HB1.out.alloc HB1.out.size (.cells zeroV 24)).trans (hb3.mono (by have := HB1.out.size; simp; omega)))
      have HR3 := Lib.hid ((HR1.out.alloc (.cells zeroV 24)).below hb3 (by have := HR1.out.inside; simp; omega))
      have HQ3 := Lib.hid ((HQ.out.alloc (.cells zeroV 24)).below hb3 (by have := HQ.out.inside; simp; omega))
      have HG3 := Lib.hid (hg0.below hb3 (by simp))
      have HH3 := Lib.hid hB
      have hrg := HR1.out.inside
      have Hg3 := Lib.hid (show w1.heap.size < w3.heap.size by have := hb3.size; simp at this; omega)
      clear hg0 hb3 hB HB1 HR1 HQ
      generalize w1.heap.size = g at HG3 Hg3 hrg ⊢
      go_wp2_with fail
      have HX := Lib.hid (show RR s w (w3.alloc (.cells #[.pointer (some ⟨g, 0, none⟩), .pointer (some ⟨g, 1, none⟩), .pointer (some ⟨g, 2, none⟩), .pointer (some ⟨g, 3, none⟩), .pointer (some ⟨g, 4, none⟩)] 58)) r q cq h w3.heap.size g 0 0 from
        ⟨HB3.out.alloc HB3.out.size _, HR3.out.alloc _, HQ3.out.alloc _, HH3.out.alloc _, Tide.At.made _ _ _, HG3.out.alloc _, HPr.out, hrg, by have := Hg3.out; omega⟩)
      clear HB3 HR3 HQ3 HH3 HG3 Hg3 hrg
      generalize w3.alloc (.cells #[.pointer (some ⟨g, 0, none⟩), .pointer (some ⟨g, 1, none⟩), .pointer (some ⟨g, 2, none⟩), .pointer (some ⟨g, 3, none⟩), .pointer (some ⟨g, 4, none⟩)] 58) = W4 at HX ⊢
      generalize w3.heap.size = p at HX ⊢
      go_loopw [10] (fun x wr => ∃ i : Nat, i ≤ 5 ∧ x = .int .i64 i ∧ Hid (RR s w wr r q cq h p g i 0) ∧ Hid (∀ e < i, Tide.fOk (Tide.piecesB 32 s) e = true)) (fun x _ => 5 - (intOf x).toNat)
      case atStart => exact ⟨0, by omega, rfl, HX, Lib.hid (fun e he => absurd he (Nat.not_lt_zero e))⟩
      case round =>
        clear HX
        obtain ⟨i, hi, rfl, HX, HOk⟩ := hrel
        have i0 : (0 : Int) ≤ (i : Int) := by omega
        by_cases hlt : i < 5
        · have i1 : (i : Int) < 5 := by omega
          obtain ⟨x, hx⟩ := HGet.out i (by have := Hn.out; omega)
          have HXs := Lib.hid (show x.size ≤ 1000000 by have := HPS.out x (List.mem_of_getElem? hx); have := HS.out; omega)
          have y0 := HX.out.list.cell (i := i) (v := .string x) (by rw [List.getElem?_map, hx]; rfl)
          have HPc := Lib.hid (Tide.pieceAt_get hx)
          have HLt := Lib.hid hlt
          clear hx hlt
          go_wp2_with fail
          refine (refPcs 44 x HXs.out _).mono ?_
          rintro e w5 ⟨q2, c2, rfl, hrow2, hb5, hc2, hc22⟩
          have HX5 := Lib.hid (HX.out.belowS hb5 (Nat.le_refl _))
          have HQ2 := Lib.hid hrow2
          have HGet2 := Lib.hid (fun kk => Tide.get_some (Tide.piecesB 44 x) (i := kk))
          have HPS2 := Lib.hid (fun p (hp : p ∈ Tide.piecesB 44 x) => (Tide.piecesB_le hp : p.size ≤ x.size))
          have hfew2 := Tide.piecesB_few 44 x
          obtain ⟨m, Hm⟩ : ∃ m, Hid ((Tide.piecesB 44 x).length = m) := ⟨_, Lib.hid rfl⟩
          have hm1 : (m : Int) ≤ 1000001 := by have := Hm.out; have := HXs.out; omega
          rw [Hm.out] at hc2 ⊢
          clear hrow2 hb5 HX hfew2 y0
          go_wp2_with fail
          have HR0 := Lib.hid (show ∀ y ∈ (Tide.piecesB 44 x).take 0, Tide.itemN (Tide.lim i).1 (Tide.lim i).2 y ≠ [] by simp)
          go_loopw [12] (fun v wr => ∃ j : Nat, j ≤ m ∧ v = .int .i64 j ∧ Hid (RR s w wr r q cq h p g i (Tide.maskN (Tide.itemsN (Tide.lim i).1 (Tide.lim i).2 ((Tide.piecesB 44 x).take j)))) ∧ Hid (Tide.RowIn wr q2 9 (c2 * 1) ((Tide.piecesB 44 x).map Value.string)) ∧ Hid (∀ y ∈ (Tide.piecesB 44 x).take j, Tide.itemN (Tide.lim i).1 (Tide.lim i).2 y ≠ [])) (fun v _ => m - (intOf v).toNat)
          case atStart => exact ⟨0, by omega, rfl, HX5, HQ2, HR0⟩
          case round =>
            clear HX5 HQ2 HR0
            obtain ⟨j, hj, rfl, HX, HQ2, HGd⟩ := hrel
            have j0 : (0 : Int) ≤ (j : Int) := by omega
            by_cases hltj : j < m
            · have j1 : (j : Int) < (m : Int) := by omega
              obtain ⟨y, hy⟩ := HGet2.out j (by have := Hm.out; omega)
              have HYs := Lib.hid (show y.size ≤ 1000000 by have := HPS2.out y (List.mem_of_getElem? hy); have := HXs.out; omega)
              have y0 := HQ2.out.cell (i := j) (v := .string y) (by rw [List.getElem?_map, hy]; rfl)
              obtain ⟨y1, y2⟩ := lim_at HX.out.lim i HLt.out
              have HY := Lib.hid hy
              have HLj := Lib.hid hltj
              have HItm := Lib.hid (fun W => refItem (Tide.lim i).1 (Tide.lim i).2 y W HYs.out (by have := Tide.lim_le i; omega) (by have := Tide.lim_le i; omega))
              clear hy hltj
              go_upto_region 16 with fail
              go_cut [13] (fun v wx => Hid (Tide.OwnRow (fun _ => True) wx 3 1 v (Tide.itemN ((Tide.lim i).1 : Int) ((Tide.lim i).2 : Int) y).length ((Tide.itemN ((Tide.lim i).1 : Int) ((Tide.lim i).2 : Int) y).map fun (n : Nat) => Value.int .i64 (n : Int))) ∧ Hid (RR s w wx r q cq h p g i (Tide.maskN (Tide.itemsN (Tide.lim i).1 (Tide.lim i).2 ((Tide.piecesB 44 x).take j)))) ∧ Hid (Tide.RowIn wx q2 9 (c2 * 1) ((Tide.piecesB 44 x).map Value.string)))
              case first =>
                go_region_with (go_at_call 31; refine (HItm.out _).mono ?_; rintro e w6 ⟨v, rfl, hv, hb6⟩)
                all_goals
                  have HX6 := Lib.hid (HX.out.drew.belowS hb6 (Nat.le_refl _))
                  have HQ6 := Lib.hid (HQ2.out.drew.below hb6 HQ2.out.inside)
                  have HV6 := Lib.hid (hv.mono (S' := fun _ => True) (fun _ _ _ => trivial))
                  clear hv hb6 HX HQ2 y0 y1 y2
                  go_wp2_with fail
                  go_meet
                  exact ⟨HV6, HX6, HQ6⟩
              case rest =>
                obtain ⟨HV6, HX6, HQ6⟩ := hcut
                have hv := HV6.out
                obtain ⟨A, c6, rfl, hc6, hc62, hA⟩ := hv.slice
                have HA := Lib.hid hA
                obtain ⟨L, HL⟩ : ∃ L, Hid (Tide.itemN ((Tide.lim i).1 : Int) ((Tide.lim i).2 : Int) y = L) := ⟨_, Lib.hid rfl⟩
                have hLn := Tide.itemN_len ((Tide.lim i).1 : Int) ((Tide.lim i).2 : Int) y
                rw [HL.out] at HA hc6 hLn ⊢
                clear hv hA HV6 HX HQ2 y0 y1 y2
                by_cases hL0 : L.length = 0
                · have hLe : L = [] := List.eq_nil_of_length_eq_zero hL0
                  have HK := Lib.hid (Tide.cronOk_bad HLt.out (s := s) (show Tide.fOk (Tide.piecesB 32 s) i = false by
                    unfold Tide.fOk
                    rw [HPc.out]
                    exact Tide.fieldOk_bad HY.out (by rw [HL.out]; exact hLe)))
                  rw [hL0]
                  clear hLe hL0 hLn hc6 HA
                  have F := fun i => (HX6.out.res).soft i
                  have f0 := F 0; have f1 := F 1; have f2 := F 2; have f3 := F 3; have f4 := F 4; have f5 := F 5; have f6 := F 6
                  have y0 : wc.cell? ⟨r, 0, none⟩ = some (.int .u64 0) := (HX6.out.res).here rfl
                  have y1 : wc.cell? ⟨r, 1, none⟩ = some (.int .u64 0) := (HX6.out.res).here rfl
                  have y2 : wc.cell? ⟨r, 2, none⟩ = some (.int .u64 0) := (HX6.out.res).here rfl
                  have y3 : wc.cell? ⟨r, 3, none⟩ = some (.int .u64 0) := (HX6.out.res).here rfl
                  have y4 : wc.cell? ⟨r, 4, none⟩ = some (.int .u64 0) := (HX6.out.res).here rfl
                  have y5 : wc.cell? ⟨r, 5, none⟩ = some (.bool false) := (HX6.out.res).here rfl
                  have y6 : wc.cell? ⟨r, 6, none⟩ = some (.bool false) := (HX6.out.res).here rfl
                  clear F
                  go_wp2_with fail
                  obtain ⟨P1, P2⟩ := put7 (show Tide.At wc r 24 #[.int .u64 0, .int .u64 0, .int .u64 0, .int .u64 0, .int .u64 0, .bool false, .bool false] from HX6.out.res) (.int .u64 0) (.int .u64 0) (.int .u64 0) (.int .u64 0) (.int .u64 0) (.bool false) (.bool false) HPr.out HX6.out.below
                  have HF := Lib.hid (HBad.out _ HK.out P2)
                  have c0 := P1.here (i := 0) rfl; have c1 := P1.here (i := 1) rfl; have c2 := P1.here (i := 2) rfl; have c3 := P1.here (i := 3) rfl; have c4 := P1.here (i := 4) rfl; have c5 := P1.here (i := 5) rfl; have c6 := P1.here (i := 6) rfl
                  clear P1 P2
                  generalize (((((((wc.setCell ⟨r, 0, none⟩ (.int .u64 0)).setCell ⟨r, 1, none⟩ (.int .u64 0)).setCell ⟨r, 2, none⟩ (.int .u64 0)).setCell ⟨r, 3, none⟩ (.int .u64 0)).setCell ⟨r, 4, none⟩ (.int .u64 0)).setCell ⟨r, 5, none⟩ (.bool false)).setCell ⟨r, 6, none⟩ (.bool false)) = W9 at HF c0 c1 c2 c3 c4 c5 c6 ⊢
                  exact bodyPost_ret (v := .tuple #[.agg zeroV, .int .i64 3]) (by simp [results, Tryd.results10, go_sem, zeroV, c0, c1, c2, c3, c4, c5, c6]) rfl HF.out
                · have hLp : 0 < L.length := by omega
                  have hLn1 : ((L.length : Nat) : Int) ≤ 100 := by omega
                  have hLn0 : ((L.length : Nat) : Int) ≠ 0 := by omega
                  obtain ⟨b, rfl, hbw, hrow6⟩ := HA.out hLp
                  have hbw := 0
                  have HN6 := Lib.hid hrow6
                  have HIn := Lib.hid (show ∀ n ∈ L, n ≤ 60 from fun n hn => by
                    rw [← HL.out] at hn
                    have := Tide.itemN_in (first := ((Tide.lim i).1 : Int)) (by omega) n hn
                    have := Tide.lim_le i
                    omega)
                  have HM0 := Lib.hid (Tide.itemsN_le (first := (Tide.lim i).1) (Tide.lim_le i).2 ((Tide.piecesB 44 x).take j))
                  have HNext := Lib.hid (show Tide.itemsN ((Tide.lim i).1 : Int) ((Tide.lim i).2 : Int) ((Tide.piecesB 44 x).take j) ++ L = Tide.itemsN ((Tide.lim i).1 : Int) ((Tide.lim i).2 : Int) ((Tide.piecesB 44 x).take (j + 1)) by
                    rw [Tide.take_of_get HY.out, Tide.itemsN_snoc, HL.out])
                  have HGd2 := Lib.hid (show ∀ y ∈ (Tide.piecesB 44 x).take (j + 1), Tide.itemN ((Tide.lim i).1 : Int) ((Tide.lim i).2 : Int) y ≠ [] from by
                    rw [Tide.take_of_get HY.out]
                    intro z hz
                    rcases List.mem_append.1 hz with hz | hz
                    · exact HGd.out z hz
                    · rw [List.mem_singleton.1 hz, HL.out]
                      intro e; rw [e] at hLp; exact absurd hLp (by decide))
                  have HGetL := Lib.hid (fun kk => Tide.get_some L (i := kk))
                  generalize Tide.itemsN ((Tide.lim i).1 : Int) ((Tide.lim i).2 : Int) ((Tide.piecesB 44 x).take j) = D at HX6 HM0 HNext
                  obtain ⟨N, HN⟩ : ∃ N, Hid (L.length = N) := ⟨_, Lib.hid rfl⟩
                  rw [HN.out] at hLn1 hLn0 hc6 ⊢
                  have HX7 := Lib.hid (show RR s w wc r q cq h p g i (Tide.maskN (D ++ L.take 0)) by rw [List.take_zero, List.append_nil]; exact HX6.out)
                  clear hrow6 HA HX6 hbw hLp hL0 hLn
                  go_wp2_with fail
                  go_loopw [14] (fun v wr => ∃ k : Nat, k ≤ N ∧ v = .int .i64 k ∧ Hid (RR s w wr r q cq h p g i (Tide.maskN (D ++ L.take k))) ∧ Hid (Tide.RowIn wr q2 9 (c2 * 1) ((Tide.piecesB 44 x).map Value.string)) ∧ Hid (Tide.RowIn wr b 3 (c6 * 1) (L.map fun (n : Nat) => Value.int .i64 (n : Int)))) (fun v _ => N - (intOf v).toNat)
                  case atStart => exact ⟨0, by omega, rfl, HX7, HQ6, HN6⟩
                  case round =>
                    clear HX7 HQ6 HN6
                    obtain ⟨k, hk, rfl, HX, HQ2, HRow⟩ := hrel
                    have k0 : (0 : Int) ≤ (k : Int) := by omega
                    by_cases hltk : k < N
                    · have k1 : (k : Int) < (N : Int) := by omega
                      obtain ⟨z, hz⟩ := HGetL.out k (by have := HN.out; omega)
                      have z0 := HRow.out.cell (i := k) (v := .int .i64 (z : Int)) (by rw [List.getElem?_map, hz]; rfl)
                      have z1 := ptr_at HX.out.ptr i HLt.out
                      have z2 := HX.out.row.here (rowR_cell (Tide.piecesB 32 s) i (Tide.maskN (D ++ L.take k)) HLt.out)
                      have z3 := HX.out.row.soft i
                      have hz60 : z ≤ 60 := HIn.out z (List.mem_of_getElem? hz)
                      have HP := Lib.hid (pow_u64 (show z ≤ 62 by omega))
                      have HO := Lib.hid (Tide.or_u64 (Tide.maskN (D ++ L.take k)) (2 ^ z) (Tide.maskN_lt (fun n hn => by
                        rcases List.mem_append.1 hn with hn | hn
                        · exact HM0.out n hn
                        · exact HIn.out n (List.mem_of_mem_take hn))) (Nat.lt_of_le_of_lt (Nat.pow_le_pow_right (by omega) hz60) (by decide)))
                      have HE := Lib.hid (show Tide.maskN (D ++ L.take (k + 1)) = Tide.maskN (D ++ L.take k) ||| 2 ^ z by rw [Tide.take_of_get hz, ← List.append_assoc, Tide.maskN_snoc])
                      have z4 : (0 : Int) ≤ (z : Int) := by omega
                      have z5 : (z : Int) ≤ 60 := by omega
                      have HLk := Lib.hid hltk
                      clear hz hltk
                      go_upto_region 22 with fail
                      go_region
                      have HNx := Lib.hid (show RR s w ((wr.setCell ⟨g, i, none⟩ (.int .u64 (bits .or .u64 ((Tide.maskN (D ++ L.take k) : Nat) : Int) (IntKind.u64.wrap (2 ^ z))))).drew) r q cq h p g i (Tide.maskN (D ++ L.take (k + 1))) by
                        rw [HP.out, HO.out, HE.out]; exact (HX.out.put HLt.out _).drew)
                      have HQx := Lib.hid ((HQ2.out.other (p := ⟨g, i, none⟩) (fun e => HQ2.out.apartAt HX.out.row (by decide) e) (.int .u64 (bits .or .u64 ((Tide.maskN (D ++ L.take k) : Nat) : Int) (IntKind.u64.wrap (2 ^ z))))).drew)
                      have HRx := Lib.hid ((HRow.out.other (p := ⟨g, i, none⟩) (fun e => HRow.out.apartAt HX.out.row (by decide) e) (.int .u64 (bits .or .u64 ((Tide.maskN (D ++ L.take k) : Nat) : Int) (IntKind.u64.wrap (2 ^ z))))).drew)
                      clear HX HQ2 HRow z0 z1 z2 z3 HP HO HE
                      go_wp2_with fail
                      go_roundw
                      case rel => exact ⟨k + 1, HLk.out, by go_num, HNx, HQx, HRx⟩
                      case measure => have := HLk.out; simp [intOf]; omega
                    · have hke : k = N := by omega
                      have hk1 : (N : Int) ≤ (k : Int) := by omega
                      have HXj := Lib.hid (show RR s w wr r q cq h p g i (Tide.maskN (Tide.itemsN (Tide.lim i).1 (Tide.lim i).2 ((Tide.piecesB 44 x).take (j + 1)))) by
                        have := HX.out
                        rw [hke, ← HN.out, List.take_length, HNext.out] at this
                        exact this)
                      clear HX HRow hke hk hltk
                      go_wp2_with fail
                      go_roundw
                      case rel => exact ⟨j + 1, HLj.out, by go_num, HXj, HQ2, HGd2⟩
                      case measure => have := HLj.out; simp [intOf]; omega
            · have hje : j = m := by omega
              have hj1 : (m : Int) ≤ (j : Int) := by omega
              have HXi := Lib.hid (show RR s w wr r q cq h p g (i + 1) 0 from by
                have := HX.out
                rw [hje, ← Hm.out, List.take_length, ← HPc.out] at this
                exact RR.step this HLt.out)
              have HOk2 := Lib.hid (show ∀ e < i + 1, Tide.fOk (Tide.piecesB 32 s) e = true from fun e he => by
                rcases Nat.lt_succ_iff_lt_or_eq.1 he with c | c
                · exact HOk.out e c
                · subst c
                  unfold Tide.fOk
                  rw [HPc.out]
                  have := HGd.out
                  rw [hje, ← Hm.out, List.take_length] at this
                  exact Tide.fieldOk_good this)
              clear HX HQ2 HGd hje hj hltj
              go_wp2_with fail
              go_roundw
              case rel => exact ⟨i + 1, HLt.out, by go_num, HXi, HOk2⟩
              case measure => have := HLt.out; simp [intOf]; omega
        · have hie : i = 5 := by omega
          subst hie
          obtain ⟨x2, hx2⟩ := HGet.out 2 (by rw [Hn.out]; decide)
          obtain ⟨x4, hx4⟩ := HGet.out 4 (by rw [Hn.out]; decide)
          have e2 := HX.out.list.cell (i := 2) (v := .string x2) (by rw [List.getElem?_map, hx2]; rfl)
          have e4 := HX.out.list.cell (i := 4) (v := .string x4) (by rw [List.getElem?_map, hx4]; rfl)
          have HA2 := Lib.hid (show Tide.isAny (Tide.piecesB 32 s) 2 = (x2.toList == [42]) by unfold Tide.isAny; rw [Tide.pieceAt_get hx2])
          have HA4 := Lib.hid (show Tide.isAny (Tide.piecesB 32 s) 4 = (x4.toList == [42]) by unfold Tide.isAny; rw [Tide.pieceAt_get hx4])
          have e5 : wr.cell? ⟨g, 5, none⟩ = some (.bool false) := HX.out.row.here rfl
          have e6 : wr.cell? ⟨g, 6, none⟩ = some (.bool false) := HX.out.row.here rfl
          have s5 := HX.out.row.soft 5
          have s6 := HX.out.row.soft 6
          have HG := Lib.hid (Tide.cronOk_good (s := s) HL2.out Hn.out HOk.out)
          clear hx2 hx4 HOk hlt
          go_upto_region 23 with fail
          go_region
          have HR8 := Lib.hid ((((HX.out.res.other (p := ⟨g, 5, none⟩) (fun e => by have := HX.out.rg; have e2 : r = g := e; omega) (.bool (x2.toList == [42]))).other (p := ⟨g, 6, none⟩) (fun e => by have := HX.out.rg; have e2 : r = g := e; omega) (.bool (x4.toList == [42]))).drew))
          have HG8 := Lib.hid (show Tide.At ((wr.setCell ⟨g, 5, none⟩ (.bool (x2.toList == [42]))).setCell ⟨g, 6, none⟩ (.bool (x4.toList == [42]))).drew g 24 (partV (Tide.piecesB 32 s) 5) by
            rw [← rowR_end, HA2.out, HA4.out]; exact ((HX.out.row.put 5 _).put 6 _).drew)
          have HB8 := Lib.hid (((HX.out.below.setCell (p := ⟨g, 5, none⟩) (by have := HX.out.hr; have := HX.out.rg; show w.heap.size ≤ g; omega) (.bool (x2.toList == [42]))).setCell (p := ⟨g, 6, none⟩) (by have := HX.out.hr; have := HX.out.rg; show w.heap.size ≤ g; omega) (.bool (x4.toList == [42]))).drew)
          generalize ((wr.setCell ⟨g, 5, none⟩ (.bool (x2.toList == [42]))).setCell ⟨g, 6, none⟩ (.bool (x4.toList == [42]))).drew = W8 at HR8 HG8 HB8 ⊢
          clear HX e2 e4 e5 e6 s5 s6 HA2 HA4
          have g0 : W8.cell? ⟨g, 0, none⟩ = some (.int .u64 (pm (Tide.piecesB 32 s) 5 0 : Nat)) := HG8.out.here rfl
          have g1 : W8.cell? ⟨g, 1, none⟩ = some (.int .u64 (pm (Tide.piecesB 32 s) 5 1 : Nat)) := HG8.out.here rfl
          have g2 : W8.cell? ⟨g, 2, none⟩ = some (.int .u64 (pm (Tide.piecesB 32 s) 5 2 : Nat)) := HG8.out.here rfl
          have g3 : W8.cell? ⟨g, 3, none⟩ = some (.int .u64 (pm (Tide.piecesB 32 s) 5 3 : Nat)) := HG8.out.here rfl
          have g4 : W8.cell? ⟨g, 4, none⟩ = some (.int .u64 (pm (Tide.piecesB 32 s) 5 4 : Nat)) := HG8.out.here rfl
          have g5 : W8.cell? ⟨g, 5, none⟩ = some (.bool (pa (Tide.piecesB 32 s) 5 2)) := HG8.out.here rfl
          have g6 : W8.cell? ⟨g, 6, none⟩ = some (.bool (pa (Tide.piecesB 32 s) 5 4)) := HG8.out.here rfl
          have F := fun i => (HR8.out).soft i
          have f0 := F 0; have f1 := F 1; have f2 := F 2; have f3 := F 3; have f4 := F 4; have f5 := F 5; have f6 := F 6
          have y0 : W8.cell? ⟨r, 0, none⟩ = some (.int .u64 0) := (HR8.out).here rfl
          have y1 : W8.cell? ⟨r, 1, none⟩ = some (.int .u64 0) := (HR8.out).here rfl
          have y2 : W8.cell? ⟨r, 2, none⟩ = some (.int .u64 0) := (HR8.out).here rfl
          have y3 : W8.cell? ⟨r, 3, none⟩ = some (.int .u64 0) := (HR8.out).here rfl
          have y4 : W8.cell? ⟨r, 4, none⟩ = some (.int .u64 0) := (HR8.out).here rfl
          have y5 : W8.cell? ⟨r, 5, none⟩ = some (.bool false) := (HR8.out).here rfl
          have y6 : W8.cell? ⟨r, 6, none⟩ = some (.bool false) := (HR8.out).here rfl
          clear F
          go_wp2_with fail
          obtain ⟨P1, P2⟩ := put7 (show Tide.At W8 r 24 #[.int .u64 0, .int .u64 0, .int .u64 0, .int .u64 0, .int .u64 0, .bool false, .bool false] from HR8.out) (.int .u64 (pm (Tide.piecesB 32 s) 5 0 : Nat)) (.int .u64 (pm (Tide.piecesB 32 s) 5 1 : Nat)) (.int .u64 (pm (Tide.piecesB 32 s) 5 2 : Nat)) (.int .u64 (pm (Tide.piecesB 32 s) 5 3 : Nat)) (.int .u64 (pm (Tide.piecesB 32 s) 5 4 : Nat)) (.bool (pa (Tide.piecesB 32 s) 5 2)) (.bool (pa (Tide.piecesB 32 s) 5 4)) HPr.out HB8.out
          have HF := Lib.hid (HGood.out _ HG.out P2)
          have c0 := P1.here (i := 0) rfl; have c1 := P1.here (i := 1) rfl; have c2 := P1.here (i := 2) rfl; have c3 := P1.here (i := 3) rfl; have c4 := P1.here (i := 4) rfl; have c5 := P1.here (i := 5) rfl; have c6 := P1.here (i := 6) rfl
          clear P1 P2
          generalize (((((((W8.setCell ⟨r, 0, none⟩ (.int .u64 (pm (Tide.piecesB 32 s) 5 0 : Nat))).setCell ⟨r, 1, none⟩ (.int .u64 (pm (Tide.piecesB 32 s) 5 1 : Nat))).setCell ⟨r, 2, none⟩ (.int .u64 (pm (Tide.piecesB 32 s) 5 2 : Nat))).setCell ⟨r, 3, none⟩ (.int .u64 (pm (Tide.piecesB 32 s) 5 3 : Nat))).setCell ⟨r, 4, none⟩ (.int .u64 (pm (Tide.piecesB 32 s) 5 4 : Nat))).setCell ⟨r, 5, none⟩ (.bool (pa (Tide.piecesB 32 s) 5 2))).setCell ⟨r, 6, none⟩ (.bool (pa (Tide.piecesB 32 s) 5 4))) = W9 at HF c0 c1 c2 c3 c4 c5 c6 ⊢
          exact bodyPost_ret (v := .tuple #[.agg (partV (Tide.piecesB 32 s) 5), .int .i64 0]) (by simp [results, Tryd.results10, go_sem, partV, c0, c1, c2, c3, c4, c5, c6]) rfl HF.out
    · have h6 : (n : Int) ≠ 5 := by omega
      have HK := Lib.hid (Tide.cronOk_few (s := s) (by have := Hn.out; omega))
      clear h5
      have F := fun i => (HR1.out).soft i
      have f0 := F 0; have f1 := F 1; have f2 := F 2; have f3 := F 3; have f4 := F 4; have f5 := F 5; have f6 := F 6
      have y0 : w1.cell? ⟨r, 0, none⟩ = some (.int .u64 0) := (HR1.out).here rfl
      have y1 : w1.cell? ⟨r, 1, none⟩ = some (.int .u64 0) := (HR1.out).here rfl
      have y2 : w1.cell? ⟨r, 2, none⟩ = some (.int .u64 0) := (HR1.out).here rfl
      have y3 : w1.cell? ⟨r, 3, none⟩ = some (.int .u64 0) := (HR1.out).here rfl
      have y4 : w1.cell? ⟨r, 4, none⟩ = some (.int .u64 0) := (HR1.out).here rfl
      have y5 : w1.cell? ⟨r, 5, none⟩ = some (.bool false) := (HR1.out).here rfl
      have y6 : w1.cell? ⟨r, 6, none⟩ = some (.bool false) := (HR1.out).here rfl
      clear F
      go_wp2_with fail
      obtain ⟨P1, P2⟩ := put7 (show Tide.At w1 r 24 #[.int .u64 0, .int .u64 0, .int .u64 0, .int .u64 0, .int .u64 0, .bool false, .bool false] from HR1.out) (.int .u64 0) (.int .u64 0) (.int .u64 0) (.int .u64 0) (.int .u64 0) (.bool false) (.bool false) HPr.out HB1.out
      have HF := Lib.hid (HBad.out _ HK.out P2)
      have c0 := P1.here (i := 0) rfl; have c1 := P1.here (i := 1) rfl; have c2 := P1.here (i := 2) rfl; have c3 := P1.here (i := 3) rfl; have c4 := P1.here (i := 4) rfl; have c5 := P1.here (i := 5) rfl; have c6 := P1.here (i := 6) rfl
      clear P1 P2
      generalize (((((((w1.setCell ⟨r, 0, none⟩ (.int .u64 0)).setCell ⟨r, 1, none⟩ (.int .u64 0)).setCell ⟨r, 2, none⟩ (.int .u64 0)).setCell ⟨r, 3, none⟩ (.int .u64 0)).setCell ⟨r, 4, none⟩ (.int .u64 0)).setCell ⟨r, 5, none⟩ (.bool false)).setCell ⟨r, 6, none⟩ (.bool false)) = W9 at HF c0 c1 c2 c3 c4 c5 c6 ⊢
      exact bodyPost_ret (v := .tuple #[.agg zeroV, .int .i64 3]) (by simp [results, Tryd.results10, go_sem, zeroV, c0, c1, c2, c3, c4, c5, c6]) rfl HF.out
end Go.Proofs.YthelnkoohbnjpaaDoor
