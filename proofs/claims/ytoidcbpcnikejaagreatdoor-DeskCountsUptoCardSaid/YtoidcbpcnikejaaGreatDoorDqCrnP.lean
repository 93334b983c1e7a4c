/- The contract of cron.Parse. -/
import Derived.Test.YtoidcbpcnikejaaGreatDoorDq15
set_option linter.unusedVariables false
set_option linter.unusedSimpArgs false
set_option maxRecDepth 100000
set_option maxHeartbeats 12800000
namespace Go.Proofs.YtoidcbpcnikejaaGreatDoor
open Go.RowKit
def pm (ps : List ByteArray) (k i : Nat) : Nat := if i < k then G.fM ps i else 0
def pa (ps : List ByteArray) (k i : Nat) : Bool := decide (i < k) && G.isAny ps i
def partV (ps : List ByteArray) (k : Nat) : Array Value := #[.int .u64 (pm ps k 0 : Nat), .int .u64 (pm ps k 1 : Nat), .int .u64 (pm ps k 2 : Nat), .int .u64 (pm ps k 3 : Nat), .int .u64 (pm ps k 4 : Nat), .bool (pa ps k 2), .bool (pa ps k 4)]
def zeroV : Array Value := #[.int .u64 0, .int .u64 0, .int .u64 0, .int .u64 0, .int .u64 0, .bool false, .bool false]
def cronV (s : ByteArray) : Array Value := if G.cronOk s = true then partV (G.piecesB 32 s) 5 else zeroV
def anK : Nat → Option Nat
 | 2 => some 5
 | 4 => some 6
 | _ => none
theorem part_next (ps : List ByteArray) (k : Nat) (hk : k < 5) : anyPut (anK k) (G.isAny ps k) ((partV ps k).setIfInBounds k (.int .u64 (G.fM ps k : Nat))) = partV ps (k + 1) := by
 match k, hk with
 | 0, _ => simp [partV, pm, pa, anK, anyPut]
 | 1, _ => simp [partV, pm, pa, anK, anyPut]
 | 2, _ => cases h : G.isAny ps 2 <;> simp [partV, pm, pa, anK, anyPut, h]
 | 3, _ => simp [partV, pm, pa, anK, anyPut]
 | 4, _ => cases h : G.isAny ps 4 <;> simp [partV, pm, pa, anK, anyPut, h]
theorem part_cell (ps : List ByteArray) (k : Nat) (hk : k < 5) : (partV ps k)[k]? = some (.int .u64 0) := by
 match k, hk with
 | 0, _ => rfl
 | 1, _ => rfl
 | 2, _ => rfl
 | 3, _ => rfl
 | 4, _ => rfl
theorem part_any (ps : List ByteArray) (k : Nat) (hk : k < 5) : ∀ j, anK k = some j → ∃ b, (partV ps k)[j]? = some (.bool b) ∧ j ≠ k := by
 match k, hk with
 | 0, _ => intro j h; cases h
 | 1, _ => intro j h; cases h
 | 2, _ => intro j h; cases h; exact ⟨_, rfl, by decide⟩
 | 3, _ => intro j h; cases h
 | 4, _ => intro j h; cases h; exact ⟨_, rfl, by decide⟩
theorem fields_at {w : World} {h g : Nat} (ha : G.At w h 142 (fieldCells g)) (k : Nat) (hk : k < 5) :
  w.cell? ⟨h, k * 4, none⟩ = some (.pointer (some ⟨g, k, none⟩)) ∧ w.cell? ⟨h, k * 4 + 1, none⟩ = some (.int .i64 ((G.lim k).1 : Nat)) ∧ w.cell? ⟨h, k * 4 + 2, none⟩ = some (.int .i64 ((G.lim k).2 : Nat)) ∧ w.cell? ⟨h, k * 4 + 3, none⟩ = some (anyV g (anK k)) := by
 match k, hk with
 | 0, _ => exact ⟨ha.here rfl, ha.here rfl, ha.here rfl, ha.here rfl⟩
 | 1, _ => exact ⟨ha.here rfl, ha.here rfl, ha.here rfl, ha.here rfl⟩
 | 2, _ => exact ⟨ha.here rfl, ha.here rfl, ha.here rfl, ha.here rfl⟩
 | 3, _ => exact ⟨ha.here rfl, ha.here rfl, ha.here rfl, ha.here rfl⟩
 | 4, _ => exact ⟨ha.here rfl, ha.here rfl, ha.here rfl, ha.here rfl⟩
structure PRun (s : ByteArray) (w wr : World) (r q h g k : Nat) : Prop where
 below : Below w.heap.size w wr
 res : G.At wr r 92 zeroV
 list : G.At wr q 9 ((G.piecesB 32 s).map Value.string).toArray
 tab : G.At wr h 142 (fieldCells g)
 row : G.At wr g 92 (partV (G.piecesB 32 s) k)
 ok : ∀ i < k, G.fOk (G.piecesB 32 s) i = true
 hr : w.heap.size ≤ r
 rg : r < g
theorem PRun.alloc {s : ByteArray} {w wr : World} {r q h g k : Nat} (H : PRun s w wr r q h g k) (o : Obj) : PRun s w (wr.alloc o) r q h g k :=
 ⟨H.below.alloc H.below.size o, H.res.alloc o, H.list.alloc o, H.tab.alloc o, H.row.alloc o, H.ok, H.hr, H.rg⟩
theorem PRun.drew {s : ByteArray} {w wr : World} {r q h g k : Nat} (H : PRun s w wr r q h g k) : PRun s w wr.drew r q h g k :=
 ⟨H.below.drew, H.res.drew, H.list.drew, H.tab.drew, H.row.drew, H.ok, H.hr, H.rg⟩
theorem PRun.step {s : ByteArray} {w wr w' : World} {r q h g k : Nat} (H : PRun s w wr r q h g k) {c' : Array Value} (hA : G.At w' g 92 c') (hc : G.Chg (fun b => b = g) wr w') :
  Below w.heap.size w w' ∧ G.At w' r 92 zeroV ∧ G.At w' q 9 ((G.piecesB 32 s).map Value.string).toArray ∧ G.At w' h 142 (fieldCells g) :=
 ⟨H.below.trans (hc.below H.below.size (fun k hk e => by have := H.hr; have := H.rg; omega)), H.res.chg hc (fun e => by have := H.rg; omega), H.list.chg hc (fun e => H.row.apart H.list (by decide) e.symm), H.tab.chg hc (fun e => H.row.apart H.tab (by decide) e.symm)⟩
theorem put7 {w : World} {r : Nat} {T : TypeId} {a0 a1 a2 a3 a4 a5 a6 : Value} (H : G.At w r T #[a0, a1, a2, a3, a4, a5, a6]) (v0 v1 v2 v3 v4 v5 v6 : Value) {B : Nat} (hB : B ≤ r) {a : World} (hb : Below B a w) :
  G.At (((((((w.setCell ⟨r, 0, none⟩ v0).setCell ⟨r, 1, none⟩ v1).setCell ⟨r, 2, none⟩ v2).setCell ⟨r, 3, none⟩ v3).setCell ⟨r, 4, none⟩ v4).setCell ⟨r, 5, none⟩ v5).setCell ⟨r, 6, none⟩ v6) r T #[v0, v1, v2, v3, v4, v5, v6] ∧
  Below B a (((((((w.setCell ⟨r, 0, none⟩ v0).setCell ⟨r, 1, none⟩ v1).setCell ⟨r, 2, none⟩ v2).setCell ⟨r, 3, none⟩ v3).setCell ⟨r, 4, none⟩ v4).setCell ⟨r, 5, none⟩ v5).setCell ⟨r, 6, none⟩ v6) :=
 by
  have h0 : G.At (w.setCell ⟨r, 0, none⟩ v0) r T #[v0, a1, a2, a3, a4, a5, a6] := H.put 0 v0
  have h1 : G.At ((w.setCell ⟨r, 0, none⟩ v0).setCell ⟨r, 1, none⟩ v1) r T #[v0, v1, a2, a3, a4, a5, a6] := h0.put 1 v1
  have h2 : G.At (((w.setCell ⟨r, 0, none⟩ v0).setCell ⟨r, 1, none⟩ v1).setCell ⟨r, 2, none⟩ v2) r T #[v0, v1, v2, a3, a4, a5, a6] := h1.put 2 v2
  have h3 : G.At ((((w.setCell ⟨r, 0, none⟩ v0).setCell ⟨r, 1, none⟩ v1).setCell ⟨r, 2, none⟩ v2).setCell ⟨r, 3, none⟩ v3) r T #[v0, v1, v2, v3, a4, a5, a6] := h2.put 3 v3
  have h4 : G.At (((((w.setCell ⟨r, 0, none⟩ v0).setCell ⟨r, 1, none⟩ v1).setCell ⟨r, 2, none⟩ v2).setCell ⟨r, 3, none⟩ v3).setCell ⟨r, 4, none⟩ v4) r T #[v0, v1, v2, v3, v4, a5, a6] := h3.put 4 v4
  have h5 : G.At ((((((w.setCell ⟨r, 0, none⟩ v0).setCell ⟨r, 1, none⟩ v1).setCell ⟨r, 2, none⟩ v2).setCell ⟨r, 3, none⟩ v3).setCell ⟨r, 4, none⟩ v4).setCell ⟨r, 5, none⟩ v5) r T #[v0, v1, v2, v3, v4, v5, a6] := h4.put 5 v5
  have h6 : G.At (((((((w.setCell ⟨r, 0, none⟩ v0).setCell ⟨r, 1, none⟩ v1).setCell ⟨r, 2, none⟩ v2).setCell ⟨r, 3, none⟩ v3).setCell ⟨r, 4, none⟩ v4).setCell ⟨r, 5, none⟩ v5).setCell ⟨r, 6, none⟩ v6) r T #[v0, v1, v2, v3, v4, v5, v6] := h5.put 6 v6
  exact ⟨h6, ((((((hb.setCell hB v0).setCell hB v1).setCell hB v2).setCell hB v3).setCell hB v4).setCell hB v5).setCell hB v6⟩
def ParsePost (s : ByteArray) (w : World) (e : Ending) (w' : World) : Prop := e = .returned (.tuple #[.agg (cronV s), .int .i64 (G.cronCode s)]) ∧ Below w.heap.size w w'
theorem parse_bad {s : ByteArray} {w w' : World} (h : G.cronOk s = false) (h2 : s.size ≤ 300) (hb : Below w.heap.size w w') : ParsePost s w (.returned (.tuple #[.agg zeroV, .int .i64 3])) w' := by
 have e : G.cronCode s = 3 := by unfold G.cronCode; rw [if_neg (by omega), if_neg (by rw [h]; simp)]
 have e2 : cronV s = zeroV := if_neg (by rw [h]; simp)
 exact ⟨by rw [e, e2], hb⟩
theorem parse_long {s : ByteArray} {w w' : World} (h2 : 300 < s.size) (hb : Below w.heap.size w w') : ParsePost s w (.returned (.tuple #[.agg zeroV, .int .i64 2])) w' := by
 have e : G.cronCode s = 2 := if_pos h2
 have e2 : cronV s = zeroV := if_neg (by unfold G.cronOk; rw [decide_eq_false (show ¬ s.size ≤ 300 by omega)]; simp)
 exact ⟨by rw [e, e2], hb⟩
theorem parse_good {s : ByteArray} {w w' : World} (h : G.cronOk s = true) (h2 : s.size ≤ 300) (hb : Below w.heap.size w w') : ParsePost s w (.returned (.tuple #[.agg (partV (G.piecesB 32 s) 5), .int .i64 0])) w' := by
 have e : G.cronCode s = 0 := by unfold G.cronCode; rw [if_neg (by omega), if_pos h]
 have e2 : cronV s = partV (G.piecesB 32 s) 5 := if_pos h
 exact ⟨by rw [e, e2], hb⟩
theorem cronParse (s : ByteArray) (m : Int) (w : World) (hm : w.cell? ⟨0, 0, none⟩ = some (.int .i64 m)) :
  Calls Tryz.prog 52 #[.string s] w (ParsePost s w) := by
 have hb0 := (Below.refl w.heap.size w).alloc (Nat.le_refl _) (.cells zeroV 92)
 have hr0 := G.At.made w 92 zeroV
 by_cases hlen : 300 < s.size
 ·have hl : (300 : Int) < (s.size : Int) := by omega
  have HF := J (fun w' hb => parse_long (w := w) (w' := w') hlen hb)
  have HB := J hb0
  clear hlen hm hb0 hr0
  go_enter Tryz.func52, Tryz.ntmps52
  go_wp2_with fail
  refine bodyPost_ret (v := .tuple #[.agg zeroV, .int .i64 2]) (by simp [results, Tryz.results52, go_sem, zeroV]) rfl (HF.u _ ?_)
  exact HB.u
 have hl : (s.size : Int) ≤ 300 := by omega
 have hl2 : s.size ≤ 300 := by omega
 have hs : s.size ≤ 1000000 := by omega
 have HS := J hs; have HL2 := J hl2
 have hmax := World.block_lt_of_cell? _ _ hm
 have HM := J hm
 have HM1 := J ((hb0.cell (p := ⟨0, 0, none⟩) hmax).trans hm)
 have HB0 := J hb0; have HR0 := J hr0
 have HBad := J (fun w' h hb => parse_bad (w := w) (w' := w') (s := s) h hl2 hb)
 have HGood := J (fun w' h hb => parse_good (w := w) (w' := w') (s := s) h hl2 hb)
 have hfew := G.piecesB_few 32 s
 have HPS := J (fun p (hp : p ∈ G.piecesB 32 s) => (G.piecesB_le hp : p.size ≤ s.size))
 have HGet := J (fun kk => G.get_some (G.piecesB 32 s) (i := kk))
 obtain ⟨n, Hn⟩ : ∃ n, Hid ((G.piecesB 32 s).length = n) := ⟨_, J rfl⟩
 have hn1 : (n : Int) ≤ 1000001 := by have := Hn.u; omega
 clear hlen hs hl2 hb0 hr0 hm hfew
 go_enter Tryz.func52, Tryz.ntmps52
 go_wp2_with fail
 refine (shlSplit 32 s m _ HS.u HM1.u).mono ?_
 rintro e w1 ⟨rfl, rfl⟩
 have HQ := J (G.At.made (w.alloc (.cells zeroV 92)) 9 ((G.piecesB 32 s).map Value.string).toArray)
 have HB1 := J (HB0.u.alloc HB0.u.size (.cells ((G.piecesB 32 s).map Value.string).toArray 9))
 have HR1 := J (HR0.u.alloc (.cells ((G.piecesB 32 s).map Value.string).toArray 9))
 rw [Hn.u]
 clear HB0 HR0 HM1
 have hq1 : w.heap.size < (w.alloc (.cells zeroV 92)).heap.size := by simp
 generalize ((w.alloc (.cells zeroV 92)).alloc (.cells ((G.piecesB 32 s).map Value.string).toArray 9)) = W1 at HQ HB1 HR1 ⊢
 generalize (w.alloc (.cells zeroV 92)).heap.size = q at HQ hq1 ⊢
 have H5 := J hq1
 clear hq1
 go_wp2_with fail
 refine (cronFields W1.heap.size _ zeroV (G.At.made W1 92 zeroV) rfl).mono ?_
 rintro e w3 ⟨h, rfl, hh, ha, hb⟩
 have HP := J (show PRun s w w3 w.heap.size q h W1.heap.size 0 from ⟨
  (HB1.u.alloc HB1.u.size _).trans (hb.mono (by have := HB1.u.size; simp; omega)),
  (HR1.u.alloc _).below hb (by have := HR1.u.inside; simp; omega),
  (HQ.u.alloc _).below hb (by have := HQ.u.inside; simp; omega), ha,
  (G.At.made W1 92 zeroV).below hb (by simp), fun i hi => absurd hi (Nat.not_lt_zero i), Nat.le_refl _, HR1.u.inside⟩)
 clear hh ha hb HQ HB1 HR1 H5
 generalize W1.heap.size = g at HP ⊢
 obtain ⟨r, Hr⟩ : ∃ r, Hid (w.heap.size = r) := ⟨_, J rfl⟩
 rw [Hr.u] at HP ⊢
 by_cases h5 : n = 5
 ·subst h5
  have HRead := J (fun (k : Nat) (p : ByteArray) (wr : World) (hk : k < 5) (hp : (G.piecesB 32 s)[k]? = some p) (HR : PRun s w wr r q h g k) =>
   (cronRead k g (anK k) p (partV (G.piecesB 32 s) k) m wr (by have := HPS.u p (List.mem_of_getElem? hp); have := HS.u; omega) ((HR.below.cell (p := ⟨0, 0, none⟩) hmax).trans HM.u) (by have := HR.hr; have := HR.rg; have := Hr.u; omega) HR.row (part_cell _ k hk) (part_any _ k hk)))
  go_wp2_with fail
  go_loopw [24] (fun x wr => ∃ k : Nat, k ≤ 5 ∧ x = .int .i64 k ∧ Hid (PRun s w wr r q h g k)) (fun x _ => 5 - (intOf x).toNat)
  case atStart => exact ⟨0, by omega, rfl, HP⟩
  clear HP
  obtain ⟨k, hk, rfl, HP⟩ := hrel
  have i0 : (0 : Int) ≤ (k : Int) := by omega
  by_cases hlt : k < 5
  ·have i1 : (k : Int) < 5 := by omega
   obtain ⟨p, hp⟩ := HGet.u k (by have := Hn.u; omega)
   have hread := HRead.u k p
   unfold fieldV at hread
   obtain ⟨t0, t1, t2, t3⟩ := fields_at HP.u.tab k hlt
   obtain ⟨P, hP⟩ : ∃ P, anyV g (anK k) = .pointer P := by cases anK k <;> exact ⟨_, rfl⟩
   have HPost := J (fun (wx : World) => (rfl : FldPost k g (anK k) p (partV (G.piecesB 32 s) k) wx = FldPost k g (anK k) p (partV (G.piecesB 32 s) k) wx))
   rw [hP] at t3 hread
   have HRd := J hread
   have HA := J (HP.u.alloc (.cells #[.pointer (some ⟨g, k, none⟩), .int .i64 ((G.lim k).1 : Nat), .int .i64 ((G.lim k).2 : Nat), .pointer P] 142))
   have hB := G.At.made wr 142 #[.pointer (some ⟨g, k, none⟩), .int .i64 ((G.lim k).1 : Nat), .int .i64 ((G.lim k).2 : Nat), .pointer P]
   clear hread hP HPost
   have y0 := HA.u.list.here (i := k) (v := .string p) (by rw [List.getElem?_toArray, List.getElem?_map, hp]; rfl)
   go_upto_region 11 with fail
   have x0 := hB.here (i := 0) rfl; have x1 := hB.here (i := 1) rfl; have x2 := hB.here (i := 2) rfl; have x3 := hB.here (i := 3) rfl
   go_region_with (go_at_call 73; refine (HRd.u _ hlt hp (HA.u.drew)).mono ?_; rintro e w2 ⟨c2, rfl, hA2, hC2, hV2⟩)
   all_goals
    have hpc := G.pieceAt_get hp
    obtain ⟨b1, b2, b3, b4⟩ := HA.u.drew.step hA2 hC2
    have HPr := J HP.u.hr
    have B1 := J b1; have B2 := J b2
    cases hok : G.fieldOk (G.lim k).1 (G.lim k).2 p with
    | true =>
     have HN := J (show PRun s w w2 r q h g (k + 1) from ⟨b1, b2, b3, b4, by
      rw [← part_next _ k hlt]
      have e := hV2 hok
      rw [e] at hA2
      unfold G.isAny G.fM
      rw [hpc]
      exact hA2, fun i hi => by
       rcases Nat.lt_succ_iff_lt_or_eq.1 hi with c | c
       ·exact HP.u.ok i c
       subst c
       unfold G.fOk
       rw [hpc]; exact hok, HP.u.hr, HP.u.rg⟩)
     have HLt := J hlt
     clear hA2 hC2 hV2 b1 b2 b3 b4 HP HA hB x0 x1 x2 x3 y0 t0 t1 t2 t3 hp hpc hok HRd hlt
     go_wp2_with fail
     go_roundw
     case rel => exact ⟨k + 1, HLt.u, by go_num, HN⟩
     case measure => have := HLt.u; simp [intOf]; omega
    | false =>
     have HK := J (G.cronOk_bad hlt (s := s) (show G.fOk (G.piecesB 32 s) k = false by unfold G.fOk; rw [hpc]; exact hok))
     clear hA2 hC2 hV2 b1 b2 b3 b4 HP HA hB x0 x1 x2 x3 y0 t0 t1 t2 t3 hp hpc hok HRd
     have F := fun i => (B2.u).soft i
     have f0 := F 0; have f1 := F 1; have f2 := F 2; have f3 := F 3; have f4 := F 4; have f5 := F 5; have f6 := F 6
     have y0 : w2.cell? ⟨r, 0, none⟩ = some (.int .u64 0) := (B2.u).here rfl
     have y1 : w2.cell? ⟨r, 1, none⟩ = some (.int .u64 0) := (B2.u).here rfl
     have y2 : w2.cell? ⟨r, 2, none⟩ = some (.int .u64 0) := (B2.u).here rfl
     have y3 : w2.cell? ⟨r, 3, none⟩ = some (.int .u64 0) := (B2.u).here rfl
     have y4 : w2.cell? ⟨r, 4, none⟩ = some (.int .u64 0) := (B2.u).here rfl
     have y5 : w2.cell? ⟨r, 5, none⟩ = some (.bool false) := (B2.u).here rfl
     have y6 : w2.cell? ⟨r, 6, none⟩ = some (.bool false) := (B2.u).here rfl
     clear F
     go_wp2_with fail
     obtain ⟨P1, P2⟩ := put7 (show G.At w2 r 92 #[.int .u64 0, .int .u64 0, .int .u64 0, .int .u64 0, .int .u64 0, .bool false, .bool false] from B2.u) (.int .u64 0) (.int .u64 0) (.int .u64 0) (.int .u64 0) (.int .u64 0) (.bool false) (.bool false) HPr.u B1.u
     have HF := J (HBad.u _ HK.u P2)
     have c0 := P1.here (i := 0) rfl; have c1 := P1.here (i := 1) rfl; have c2 := P1.here (i := 2) rfl; have c3 := P1.here (i := 3) rfl; have c4 := P1.here (i := 4) rfl; have c5 := P1.here (i := 5) rfl; have c6 := P1.here (i := 6) rfl
     clear P1 P2
     generalize (((((((w2.setCell ⟨r, 0, none⟩ (.int .u64 0)).setCell ⟨r, 1, none⟩ (.int .u64 0)).setCell ⟨r, 2, none⟩ (.int .u64 0)).setCell ⟨r, 3, none⟩ (.int .u64 0)).setCell ⟨r, 4, none⟩ (.int .u64 0)).setCell ⟨r, 5, none⟩ (.bool false)).setCell ⟨r, 6, none⟩ (.bool false)) = W9 at HF c0 c1 c2 c3 c4 c5 c6 ⊢
     exact bodyPost_ret (v := .tuple #[.agg zeroV, .int .i64 3]) (by simp [results, Tryz.results52, go_sem, zeroV, c0, c1, c2, c3, c4, c5, c6]) rfl HF.u
  have hke : k = 5 := by omega
  subst hke
  have HPr := J HP.u.hr
  have HG := J (G.cronOk_good (s := s) HL2.u Hn.u HP.u.ok)
  have g0 : wr.cell? ⟨g, 0, none⟩ = some (.int .u64 (pm (G.piecesB 32 s) 5 0 : Nat)) := HP.u.row.here rfl
  have g1 : wr.cell? ⟨g, 1, none⟩ = some (.int .u64 (pm (G.piecesB 32 s) 5 1 : Nat)) := HP.u.row.here rfl
  have g2 : wr.cell? ⟨g, 2, none⟩ = some (.int .u64 (pm (G.piecesB 32 s) 5 2 : Nat)) := HP.u.row.here rfl
  have g3 : wr.cell? ⟨g, 3, none⟩ = some (.int .u64 (pm (G.piecesB 32 s) 5 3 : Nat)) := HP.u.row.here rfl
  have g4 : wr.cell? ⟨g, 4, none⟩ = some (.int .u64 (pm (G.piecesB 32 s) 5 4 : Nat)) := HP.u.row.here rfl
  have g5 : wr.cell? ⟨g, 5, none⟩ = some (.bool (pa (G.piecesB 32 s) 5 2)) := HP.u.row.here rfl
  have g6 : wr.cell? ⟨g, 6, none⟩ = some (.bool (pa (G.piecesB 32 s) 5 4)) := HP.u.row.here rfl
  have F := fun i => (HP.u.res).soft i
  have f0 := F 0; have f1 := F 1; have f2 := F 2; have f3 := F 3; have f4 := F 4; have f5 := F 5; have f6 := F 6
  have y0 : wr.cell? ⟨r, 0, none⟩ = some (.int .u64 0) := (HP.u.res).here rfl
  have y1 : wr.cell? ⟨r, 1, none⟩ = some (.int .u64 0) := (HP.u.res).here rfl
  have y2 : wr.cell? ⟨r, 2, none⟩ = some (.int .u64 0) := (HP.u.res).here rfl
  have y3 : wr.cell? ⟨r, 3, none⟩ = some (.int .u64 0) := (HP.u.res).here rfl
  have y4 : wr.cell? ⟨r, 4, none⟩ = some (.int .u64 0) := (HP.u.res).here rfl
  have y5 : wr.cell? ⟨r, 5, none⟩ = some (.bool false) := (HP.u.res).here rfl
  have y6 : wr.cell? ⟨r, 6, none⟩ = some (.bool false) := (HP.u.res).here rfl
  clear F
  go_wp2_with fail
  obtain ⟨P1, P2⟩ := put7 (show G.At wr r 92 #[.int .u64 0, .int .u64 0, .int .u64 0, .int .u64 0, .int .u64 0, .bool false, .bool false] from HP.u.res) (.int .u64 (pm (G.piecesB 32 s) 5 0 : Nat)) (.int .u64 (pm (G.piecesB 32 s) 5 1 : Nat)) (.int .u64 (pm (G.piecesB 32 s) 5 2 : Nat)) (.int .u64 (pm (G.piecesB 32 s) 5 3 : Nat)) (.int .u64 (pm (G.piecesB 32 s) 5 4 : Nat)) (.bool (pa (G.piecesB 32 s) 5 2)) (.bool (pa (G.piecesB 32 s) 5 4)) HPr.u HP.u.below
  have HF := J (HGood.u _ HG.u P2)
  have c0 := P1.here (i := 0) rfl; have c1 := P1.here (i := 1) rfl; have c2 := P1.here (i := 2) rfl; have c3 := P1.here (i := 3) rfl; have c4 := P1.here (i := 4) rfl; have c5 := P1.here (i := 5) rfl; have c6 := P1.here (i := 6) rfl
  clear P1 P2
  generalize (((((((wr.setCell ⟨r, 0, none⟩ (.int .u64 (pm (G.piecesB 32 s) 5 0 : Nat))).setCell ⟨r, 1, none⟩ (.int .u64 (pm (G.piecesB 32 s) 5 1 : Nat))).setCell ⟨r, 2, none⟩ (.int .u64 (pm (G.piecesB 32 s) 5 2 : Nat))).setCell ⟨r, 3, none⟩ (.int .u64 (pm (G.piecesB 32 s) 5 3 : Nat))).setCell ⟨r, 4, none⟩ (.int .u64 (pm (G.piecesB 32 s) 5 4 : Nat))).setCell ⟨r, 5, none⟩ (.bool (pa (G.piecesB 32 s) 5 2))).setCell ⟨r, 6, none⟩ (.bool (pa (G.piecesB 32 s) 5 4))) = W9 at HF c0 c1 c2 c3 c4 c5 c6 ⊢
  exact bodyPost_ret (v := .tuple #[.agg (partV (G.piecesB 32 s) 5), .int .i64 0]) (by simp [results, Tryz.results52, go_sem, partV, c0, c1, c2, c3, c4, c5, c6]) rfl HF.u
 have h6 : (n : Int) ≠ 5 := by omega
 have HPr := J HP.u.hr
 have HK := J (G.cronOk_few (s := s) (by have := Hn.u; omega))
 clear h5
 have F := fun i => (HP.u.res).soft i
 have f0 := F 0; have f1 := F 1; have f2 := F 2; have f3 := F 3; have f4 := F 4; have f5 := F 5; have f6 := F 6
 have y0 : w3.cell? ⟨r, 0, none⟩ = some (.int .u64 0) := (HP.u.res).here rfl
 have y1 : w3.cell? ⟨r, 1, none⟩ = some (.int .u64 0) := (HP.u.res).here rfl
 have y2 : w3.cell? ⟨r, 2, none⟩ = some (.int .u64 0) := (HP.u.res).here rfl
 have y3 : w3.cell? ⟨r, 3, none⟩ = some (.int .u64 0) := (HP.u.res).here rfl
 have y4 : w3.cell? ⟨r, 4, none⟩ = some (.int .u64 0) := (HP.u.res).here rfl
 have y5 : w3.cell? ⟨r, 5, none⟩ = some (.bool false) := (HP.u.res).here rfl
 have y6 : w3.cell? ⟨r, 6, none⟩ = some (.bool false) := (HP.u.res).here rfl
 clear F
 go_wp2_with fail
 obtain ⟨P1, P2⟩ := put7 (show G.At w3 r 92 #[.int .u64 0, .int .u64 0, .int .u64 0, .int .u64 0, .int .u64 0, .bool false, .bool false] from HP.u.res) (.int .u64 0) (.int .u64 0) (.int .u64 0) (.int .u64 0) (.int .u64 0) (.bool false) (.bool false) HPr.u HP.u.below
 have HF := J (HBad.u _ HK.u P2)
 have c0 := P1.here (i := 0) rfl; have c1 := P1.here (i := 1) rfl; have c2 := P1.here (i := 2) rfl; have c3 := P1.here (i := 3) rfl; have c4 := P1.here (i := 4) rfl; have c5 := P1.here (i := 5) rfl; have c6 := P1.here (i := 6) rfl
 clear P1 P2
 generalize (((((((w3.setCell ⟨r, 0, none⟩ (.int .u64 0)).setCell ⟨r, 1, none⟩ (.int .u64 0)).setCell ⟨r, 2, none⟩ (.int .u64 0)).setCell ⟨r, 3, none⟩ (.int .u64 0)).setCell ⟨r, 4, none⟩ (.int .u64 0)).setCell ⟨r, 5, none⟩ (.bool false)).setCell ⟨r, 6, none⟩ (.bool false)) = W9 at HF c0 c1 c2 c3 c4 c5 c6 ⊢
 exact bodyPost_ret (v := .tuple #[.agg zeroV, .int .i64 3]) (by simp [results, Tryz.results52, go_sem, zeroV, c0, c1, c2, c3, c4, c5, c6]) rfl HF.u
end Go.Proofs.YtoidcbpcnikejaaGreatDoor
