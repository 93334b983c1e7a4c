/- Of the texts WldR, TpA, TpP, TwoW, Eqs: what this claim reaches. -/
import Derived.Test.YtidonhndeohdlaaGreatDoorTtWldF
import Derived.Test.YtidonhndeohdlaaGreatDoorTt29
import Derived.Test.YtidonhndeohdlaaGreatDoorTt38
import Derived.Test.YtidonhndeohdlaaGreatDoorTt03
set_option linter.unusedVariables false
set_option linter.unusedSimpArgs false
namespace Go.Proofs.YtidonhndeohdlaaGreatDoor
open Go.RowKit
section
variable {R : Nat → Prop} {p : Wp} {m : Wo} {w : World}
set_option maxHeartbeats 800000 in
theorem woTarget (h : WoN R w p m) : Calls Tryz.prog 8 #[.pointer (some ⟨p.g, 0, none⟩)] w fun e w' => e = .returned (.int .i64 m.target) ∧ w = w' := by
  have x9 := h.at.here (i := 9) rfl
  clear h
  go_enter Tryz.func8, Tryz.ntmps8
  go_wp2_with fail
  go_ret
  exact ⟨rfl, rfl⟩
set_option maxRecDepth 100000 in
set_option maxHeartbeats 800000 in
theorem woPodsOf (h : WoN R w p m) : Calls Tryz.prog 10 #[.pointer (some ⟨p.g, 0, none⟩)] w (FleAllPost w m.f) := by
  have x3 := h.at.here (i := 3) rfl
  have HH := Lib.hid h
  clear h
  go_enter Tryz.func10, Tryz.ntmps10
  go_wp2_with fail
  refine (woPods _ HH.out).mono ?_
  rintro e w2 ⟨v, rfl, ho, hb⟩
  obtain ⟨A, cap, rfl, _, _, _⟩ := ho.slice
  have HO := Lib.hid ho; have HB := Lib.hid hb
  clear ho hb x3
  go_wp2_with fail
  go_ret
  exact ⟨_, rfl, HO.out, HB.out⟩
set_option maxRecDepth 100000 in
set_option maxHeartbeats 800000 in
theorem woReqsOf (h : WoN R w p m) : Calls Tryz.prog 12 #[.pointer (some ⟨p.g, 0, none⟩)] w (BufAllPost w m.b) := by
  have x4 := h.at.here (i := 4) rfl
  have HH := Lib.hid h
  clear h
  go_enter Tryz.func12, Tryz.ntmps12
  go_wp2_with fail
  refine (woReqs _ HH.out).mono ?_
  rintro e w2 ⟨v, rfl, ho, hb⟩
  obtain ⟨A, cap, rfl, _, _, _⟩ := ho.slice
  have HO := Lib.hid ho; have HB := Lib.hid hb
  clear ho hb x4
  go_wp2_with fail
  go_ret
  exact ⟨_, rfl, HO.out, HB.out⟩
end
open Go.RowKit
set_option maxRecDepth 100000 in
set_option maxHeartbeats 1600000 in
theorem topSome (w : World) : Calls Tryz.prog 14 #[] w (PlainPost w) := by
  obtain ⟨i0, hi0, hz0, hz1⟩ := info2 plain_trg
  have hz2 : ¬ 1 * i0.size > 2 ^ 24 := by rw [hz1]; decide
  have hz3 : ¬ 1 * i0.size = 0 := by rw [hz1]; decide
  have hz4 : Instr.fill (fun i => some (i * i0.size, i0.size)) ((Array.range (1 * i0.size)).map ((Value.agg #[.int .i64 0, .int .i64 0, .int .i64 0, .int .u64 0, .int .u64 0, .int .u64 0, .int .u64 0, .int .u64 0, .bool false, .bool false, .int .u64 0, .int .u64 0, .int .u64 0, .int .u64 0, .int .u64 0, .bool false, .bool false]).cells[· % (Value.agg #[.int .i64 0, .int .i64 0, .int .i64 0, .int .u64 0, .int .u64 0, .int .u64 0, .int .u64 0, .int .u64 0, .bool false, .bool false, .int .u64 0, .int .u64 0, .int .u64 0, .int .u64 0, .int .u64 0, .bool false, .bool false]).cells.size]!)) [(0, .agg TC10)] = some TC10 := by rw [hz1]; exact plain_fill
  have H0 := Lib.hid hi0; have H1 := Lib.hid hz0; have H2 := Lib.hid hz2; have H3 := Lib.hid hz3; have H4 := Lib.hid hz4
  clear hi0 hz0 hz1 hz2 hz3 hz4
  have HZ := Lib.hid (Tide.At.made w 26 #[.string ⟨#[]⟩, .int .i64 0, .int .i64 0, .int .i64 0, .int .i64 0, .int .i64 0, .int .i64 0, .int .i64 0, .int .i64 0, .int .i64 0, .int .i64 0, .int .i64 0, .int .i64 0, .int .i64 0, .int .i64 0, .int .i64 0, .int .i64 0, .slice none 0 0])
  have HB := Lib.hid ((Below.refl w.heap.size w).alloc (Nat.le_refl _) (.cells #[.string ⟨#[]⟩, .int .i64 0, .int .i64 0, .int .i64 0, .int .i64 0, .int .i64 0, .int .i64 0, .int .i64 0, .int .i64 0, .int .i64 0, .int .i64 0, .int .i64 0, .int .i64 0, .int .i64 0, .int .i64 0, .int .i64 0, .int .i64 0, .slice none 0 0] 26))
  go_enter Tryz.func14, Tryz.ntmps14
  go_upto_region 1 with fail
  generalize w.alloc (.cells #[.string ⟨#[]⟩, .int .i64 0, .int .i64 0, .int .i64 0, .int .i64 0, .int .i64 0, .int .i64 0, .int .i64 0, .int .i64 0, .int .i64 0, .int .i64 0, .int .i64 0, .int .i64 0, .int .i64 0, .int .i64 0, .int .i64 0, .int .i64 0, .slice none 0 0] 26) = W at HZ HB ⊢
  go_wp2_with (first | refine wpList_build2 rfl 65 _ rfl [(0, .int .i64 2), (1, .int .i64 10)] rfl TC10 plain_built ?_ | refine wpList_bslice2 rfl 24 65 1 _ rfl [(0, .agg TC10)] rfl TC10 i0 _ Tryz.underlying24 H0.out H1.out H2.out H3.out H4.out ?_ | refine wpList_build2 rfl 26 _ rfl [(0, .string ⟨#[112]⟩), (2, .int .i64 9), (3, .int .i64 2), (4, .int .i64 6), (11, .slice (some ⟨W.heap.size, 0, none⟩) 1 1)] rfl _ (plain_plan _) ?_ | refine wpList_store_row rfl 26 (.tmp 0) (.tmp 3) rfl w.heap.size (plnC plainP (.slice (some ⟨W.heap.size, 0, none⟩) 1 1)) rfl rfl 26 #[.string ⟨#[]⟩, .int .i64 0, .int .i64 0, .int .i64 0, .int .i64 0, .int .i64 0, .int .i64 0, .int .i64 0, .int .i64 0, .int .i64 0, .int .i64 0, .int .i64 0, .int .i64 0, .int .i64 0, .int .i64 0, .int .i64 0, .int .i64 0, .slice none 0 0] (HZ.out.alloc _) (by kernel_rfl) rfl (by kernel_rfl) ?_)
  have hA := (HZ.out.alloc (.cells TC10 65)).row_set (plnC plainP (.slice (some ⟨W.heap.size, 0, none⟩) 1 1))
  refine bodyPost_ret (v := .agg (plnC plainP (.slice (some ⟨W.heap.size, 0, none⟩) 1 1))) (by exact results_cell_row Tryz.results14 _ _ w.heap.size 26 _ (0, 0) _ rfl hA Tryz.underlying26 rfl (by kernel_rfl)) rfl ⟨W.heap.size, rfl, ?_, ?_⟩
  · exact plain_list ((Tide.At.made W 65 TC10).row_other (by have := HZ.out.inside; omega) _)
  · exact (HB.out.alloc HB.out.size _).setRow (Nat.le_refl _) _
set_option maxHeartbeats 800000 in
theorem topTick (n : Int) (w : World) : Calls Tryz.prog 16 #[.int .i64 n] w fun e w' => e = .returned (.agg #[.int .i64 1, .int .i64 0, .int .i64 n]) ∧ Below w.heap.size w w' := by
  have HB := Lib.hid ((Below.refl w.heap.size w).alloc (Nat.le_refl _) (.cells #[.int .i64 1, .int .i64 0, .int .i64 n] 53))
  go_enter Tryz.func16, Tryz.ntmps16
  go_wp2_with fail
  refine bodyPost_ret (v := .agg #[.int .i64 1, .int .i64 0, .int .i64 n]) (by simp [results, Tryz.results16, go_sem]) rfl ⟨rfl, HB.out⟩
theorem pods_len {w w' : World} {l : List Tide.Pod} {e : Ending} (h : FleAllPost w l e w') : ∃ A cap, e = .returned (.slice A l.length cap) ∧ Below w.heap.size w w' := by
  obtain ⟨v, rfl, ho, hb⟩ := h
  obtain ⟨A, cap, rfl, _⟩ := ho.slice
  exact ⟨A, cap, rfl, hb⟩
set_option maxRecDepth 100000 in
set_option maxHeartbeats 6400000 in
theorem topSaid (w : World) : Calls Tryz.prog 4 #[] w fun e w' => e = .returned (.bool true) ∧ Below w.heap.size w w' := by
  obtain ⟨m1, m2, mz, r, e1, f1, e2, f2, e3, f3, f4, f5, e4, f6, f7, k1, k2, k3⟩ := said_facts
  have E1 := Lib.hid e1; have F1 := Lib.hid f1; have E2 := Lib.hid e2; have F2 := Lib.hid f2; have E3 := Lib.hid e3; have F3 := Lib.hid f3; have F4 := Lib.hid f4; have F5 := Lib.hid f5; have E4 := Lib.hid e4; have F6 := Lib.hid f6; have F7 := Lib.hid f7
  have K1 := Lib.hid k1; have K2 := Lib.hid k2; have K3 := Lib.hid k3
  clear e1 f1 e2 f2 e3 f3 f4 f5 e4 f6 f7 k1 k2 k3
  go_enter Tryz.func4, Tryz.ntmps4
  go_wp2_with fail
  refine (topSome _).mono ?_
  rintro e w1 ⟨b, rfl, hL, hb1⟩
  have HL := Lib.hid hL; have HB1 := Lib.hid hb1
  clear hL hb1
  go_wp2_with fail
  refine (woNewYes plainP _ _ 1 2 0 w1 HL.out plainP_fits (by show 1 ≤ _; omega) plainP_ok (by omega) (by omega) (by omega) (by omega)).mono ?_
  rintro e w2 ⟨q, rfl, hn, hb2⟩
  rw [show newWo plainP ((1 : Nat) : Int) 2 0 = m1 from E1.out] at hn
  have HN2 := Lib.hid hn; have HB2 := Lib.hid (HB1.out.trans (hb2.mono HB1.out.size)); have HZ := Lib.hid HB1.out.size
  clear hn hb2 HL
  go_wp2_with fail
  refine (woDo 4 0 25 HN2.out K1.out (by omega) (by omega) (by omega)).mono ?_
  rintro e w3 ⟨rfl, hc⟩
  rw [F1.out]
  rw [E2.out] at hc
  have HN3 := Lib.hid hc.1
  have HB3 := Lib.hid (HB2.out.trans (hc.2.below HB2.out.size (fun k hk h => h (by have := HZ.out; omega))))
  clear hc HN2
  go_wp2_with fail
  refine (topTick 1 _).mono ?_
  rintro e w4 ⟨rfl, hb⟩
  have HN4 := Lib.hid (HN3.out.below hb)
  have HB4 := Lib.hid (HB3.out.trans (hb.mono HB3.out.size))
  clear hb HN3
  go_wp2_with fail
  refine (woDo 1 0 1 HN4.out K2.out (by omega) (by omega) (by omega)).mono ?_
  rintro e w5 ⟨rfl, hc⟩
  rw [F2.out]
  rw [E3.out] at hc
  have HN5 := Lib.hid hc.1
  have HB5 := Lib.hid (HB4.out.trans (hc.2.below HB4.out.size (fun k hk h => h (by have := HZ.out; omega))))
  clear hc HN4
  go_wp2_with fail
  refine (woTarget HN5.out).mono ?_
  rintro e w' ⟨rfl, rfl⟩
  rw [F3.out]
  go_wp2_with fail
  refine (woPodsOf HN5.out).mono ?_
  intro e w6 hp
  obtain ⟨A6, c6, rfl, hb⟩ := pods_len hp
  rw [F4.out]
  have HN6 := Lib.hid (HN5.out.below hb)
  have HB6 := Lib.hid (HB5.out.trans (hb.mono HB5.out.size))
  clear hb hp HN5
  go_wp2_with fail
  go_loopw [3] (fun i wr => ∃ k : Nat, k ≤ 25 ∧ i = .int .i64 ((k : Int) + 1) ∧ Hid (WoN (fun b => b < w1.heap.size) wr q (r k) ∧ Below w.heap.size w wr)) (fun i _ => 26 - (intOf i).toNat)
  case atStart => exact ⟨0, by omega, by go_num, Lib.hid ⟨HN6.out, HB6.out⟩⟩
  case round =>
    obtain ⟨k, hk, rfl, HK⟩ := hrel
    by_cases hlt : k < 25
    · obtain ⟨g1, g2, g3⟩ := F5.out k hlt
      have G1 := Lib.hid g1; have G2 := Lib.hid g2; have G3 := Lib.hid g3
      have hk0 : (0 : Int) ≤ (k : Int) := by omega
      have hk1 : (k : Int) < 25 := by omega
      have HKk := Lib.hid (K3.out k hk)
      clear g1 g2 g3
      go_wp2_with fail
      refine (woDo 5 0 5 HK.out.1 HKk.out (by omega) (by omega) (by omega)).mono ?_
      rintro e w7 ⟨rfl, hc⟩
      rw [G1.out]
      have HN7 := Lib.hid hc.1
      have HB7 := Lib.hid (HK.out.2.trans (hc.2.below HK.out.2.size (fun k hk h => h (by have := HZ.out; omega))))
      clear hc HK
      go_wp2_with fail
      refine (woDo 6 0 ((k : Int) + 1) HN7.out (ok_do HKk.out 5 0 5) (by omega) (by omega) (by omega)).mono ?_
      rintro e w8 ⟨rfl, hc⟩
      rw [G2.out]
      rw [G3.out] at hc
      have HN8 := Lib.hid hc.1
      have HB8 := Lib.hid (HB7.out.trans (hc.2.below HB7.out.size (fun k hk h => h (by have := HZ.out; omega))))
      clear hc HN7
      go_wp2_with fail
      go_roundw
      case rel => exact ⟨k + 1, by omega, by go_num, Lib.hid ⟨HN8.out, HB8.out⟩⟩
      case measure => simp [intOf]; omega
    · have hke : k = 25 := by omega
      subst hke
      go_wp2_with fail
      refine (topTick 9 _).mono ?_
      rintro e w9 ⟨rfl, hb⟩
      have HN9 := Lib.hid (HK.out.1.below hb)
      have HB9 := Lib.hid (HK.out.2.trans (hb.mono HK.out.2.size))
      clear hb HK
      go_wp2_with fail
      refine (woDo 1 0 9 HN9.out (K3.out 25 (by omega)) (by omega) (by omega) (by omega)).mono ?_
      rintro e wa ⟨rfl, hc⟩
      rw [E4.out] at hc
      have HNa := Lib.hid hc.1
      have HBa := Lib.hid (HB9.out.trans (hc.2.below HB9.out.size (fun k hk h => h (by have := HZ.out; omega))))
      clear hc HN9
      go_wp2_with fail
      refine (woTarget HNa.out).mono ?_
      rintro e w' ⟨rfl, rfl⟩
      rw [F6.out]
      go_wp2_with fail
      refine (woPodsOf HNa.out).mono ?_
      intro e wb hp
      obtain ⟨A7, c7, rfl, hb⟩ := pods_len hp
      rw [F7.out]
      have HBb := Lib.hid (HBa.out.trans (hb.mono HBa.out.size))
      clear hb hp HNa
      go_wp2_with fail
      go_ret
      exact ⟨rfl, HBb.out⟩
open Go.RowKit
theorem hap_row {w wr : World} {A : Option Addr} {l : List (List Int)} {k : Nat} (hA : RowsAt w 3 A l) (hr : ∀ row ∈ l, row.length = 3 ∧ ∀ x ∈ row, -9223372036854775808 ≤ x ∧ x ≤ 9223372036854775807) (hb : Below w.heap.size w wr) (hk : k < l.length) :
    ∃ b off x y z, A = some ⟨b, off, none⟩ ∧ wr.cell? ⟨b, off + k * 3, none⟩ = some (.int .i64 x) ∧ wr.cell? ⟨b, off + k * 3 + 1, none⟩ = some (.int .i64 y) ∧ wr.cell? ⟨b, off + k * 3 + 2, none⟩ = some (.int .i64 z) ∧ l[k]? = some [x, y, z] ∧ (-9223372036854775808 ≤ z ∧ z ≤ 9223372036854775807) ∧ b < wr.heap.size := by
  obtain ⟨b, off, e, hlt, hc⟩ := hA (by omega)
  have hrow : l[k]? = some l[k] := List.getElem?_eq_getElem hk
  have hm := hr _ (List.getElem_mem hk)
  obtain ⟨x, y, z, hxyz⟩ : ∃ x y z, l[k] = [x, y, z] := by
    match l[k], hm.1 with
    | [x, y, z], _ => exact ⟨x, y, z, rfl⟩
  rw [hxyz] at hrow hm
  exact ⟨b, off, x, y, z, e, (hb.cell (p := ⟨b, off + k * 3, none⟩) hlt).trans (hc k _ 0 x hrow rfl), (hb.cell (p := ⟨b, off + k * 3 + 1, none⟩) hlt).trans (hc k _ 1 y hrow rfl), (hb.cell (p := ⟨b, off + k * 3 + 2, none⟩) hlt).trans (hc k _ 2 z hrow rfl), hrow, hm.2 z (by simp), Nat.lt_of_lt_of_le hlt hb.size⟩
inductive AnyNew (w : World) (p : Pln) (parts most sec : Int) : Ending → World → Prop
  | bad (w' : World) (E : Int) (he : newE p parts sec = E) (h0 : E ≠ 0) (hb : Below w.heap.size w w') : AnyNew w p parts most sec (.returned (.tuple #[.pointer none, .int .i64 E])) w'
  | good (w' : World) (q : Wp) (he : newE p parts sec = 0) (hn : WoN (fun b => b < w.heap.size) w' q (newWo p parts most sec)) (hok : (newWo p parts most sec).ok 0) (hb : Below w.heap.size w w') : AnyNew w p parts most sec (.returned (.tuple #[.pointer (some ⟨q.g, 0, none⟩), .int .i64 0])) w'
theorem anyNew (p : Pln) (A : Option Addr) (cap : Nat) (parts most sec : Int) (w : World) (ht : Tide.ListIn w 17 Trg.enc (.slice A p.trigs.length cap) p.trigs) (hf : ∀ t ∈ p.trigs, t.fits) (hn : p.name.size ≤ 9223372036854775807) (hl : p.trigs.length ≤ 9223372036854775807) :
    Calls Tryz.prog 13 #[plnV p (.slice A p.trigs.length cap), .int .i64 parts, .int .i64 most, .int .i64 sec] w (AnyNew w p parts most sec) := by
  by_cases hE : planE p = 0
  · by_cases hb : (parts < 1 ∨ 20 < parts) ∨ (sec < -10000000000 ∨ 10000000000 < sec)
    · have he : newE p parts sec = 1 := by
        unfold newE
        rw [if_neg (by rw [hE]; simp)]
        split
        · rfl
        · split
          · rfl
          · omega
      refine (woNewNo p A cap parts most sec w ht hf hn hE hb).mono ?_
      rintro e w' ⟨rfl, h⟩
      exact .bad w' _ rfl (by rw [he]; decide) h
    · have he : newE p parts sec = 0 := by
        unfold newE
        rw [if_neg (by rw [hE]; simp), if_neg (by omega), if_neg (by omega)]
      obtain ⟨n, rfl⟩ := Int.eq_ofNat_of_zero_le (show 0 ≤ parts by omega)
      refine (woNewYes p A cap n most sec w ht hf hn hE (by omega) (by omega) (by omega) (by omega)).mono ?_
      rintro e w' ⟨q, rfl, h1, h2⟩
      exact .good w' q he h1 (ok_new hE hf (by omega) (by omega) (by omega)) h2
  · refine (woNewBad p A cap parts most sec w ht hf hn hl hE).mono ?_
    rintro e w' ⟨rfl, h⟩
    exact .bad w' _ rfl (by rw [wo_new_err1 hE]; exact hE) h
inductive PlayedPost (w : World) (p : Pln) (parts most sec : Int) (l : List (List Int)) : Ending → World → Prop
  | bad (w' : World) (h : newE p parts sec ≠ 0 ∨ 60 < l.length) (hb : Below w.heap.size w w') : PlayedPost w p parts most sec l (.returned (.pointer none)) w'
  | good (w' : World) (q : Wp) (he : newE p parts sec = 0) (hl : l.length ≤ 60) (hn : WoN (fun b => b < w.heap.size) w' q (playW (newWo p parts most sec) l)) (hok : (newWo p parts most sec).ok 0) (hb : Below w.heap.size w w') : PlayedPost w p parts most sec l (.returned (.pointer (some ⟨q.g, 0, none⟩))) w'
set_option maxRecDepth 100000 in
set_option maxHeartbeats 6400000 in
theorem topPlayed (p : Pln) (A : Option Addr) (cap : Nat) (parts most sec : Int) (A1 : Option Addr) (cap1 : Nat) (l : List (List Int)) (w : World) (ht : Tide.ListIn w 17 Trg.enc (.slice A p.trigs.length cap) p.trigs) (hf : ∀ t ∈ p.trigs, t.fits) (hn : p.name.size ≤ 9223372036854775807) (hl : p.trigs.length ≤ 9223372036854775807)
    (hr : ∀ row ∈ l, row.length = 3 ∧ ∀ x ∈ row, -9223372036854775808 ≤ x ∧ x ≤ 9223372036854775807) (hA : RowsAt w 3 A1 l) (hl1 : l.length ≤ 9223372036854775807) :
    Calls Tryz.prog 7 #[plnV p (.slice A p.trigs.length cap), .int .i64 parts, .int .i64 most, .int .i64 sec, .slice A1 l.length cap1] w (PlayedPost w p parts most sec l) := by
  have HB := Lib.hid ((Below.refl w.heap.size w).alloc (Nat.le_refl _) (.cells (plnC p (.slice A p.trigs.length cap)) 26))
  have HX := Lib.hid (Tide.At.made w 26 (plnC p (.slice A p.trigs.length cap)))
  have HC := Lib.hid (fun (W : World) (hb : Below w.heap.size w W) => anyNew p A cap parts most sec W (ht.below hb (Nat.le_refl _)) hf hn hl)
  have HA := Lib.hid hA; have HRw := Lib.hid hr
  clear ht hf hn hl hA hr
  unfold plnV
  unfold plnC at HB HX
  go_enter Tryz.func7, Tryz.ntmps7
  go_upto_region 1 with fail
  have HCx := Lib.hid (HC.out _ HB.out)
  generalize w.alloc (.cells #[.string p.name, .int .i64 p.mn, .int .i64 p.mx, .int .i64 p.poll, .int .i64 p.cool, .int .i64 p.tol, .int .i64 p.back, .int .i64 p.after, .int .i64 p.shift, .int .i64 p.up.win, .int .i64 p.up.pods, .int .i64 p.up.pct, .int .i64 p.up.per, .int .i64 p.down.win, .int .i64 p.down.pods, .int .i64 p.down.pct, .int .i64 p.down.per, .slice A p.trigs.length cap] 26) = W at HB HX HCx ⊢
  clear HC
  go_wp2_with (refine wpList_load_row rfl 26 (.tmp 5) rfl w.heap.size rfl 26 _ (0, 0) _ HX.out Tryz.underlying26 rfl (by kernel_rfl) ?_)
  refine HCx.out.mono ?_
  intro e w1 hnew
  clear HCx HX
  cases hnew with
  | bad _ E he h0 hb =>
    have hb1 : (E != 0) = true := by simpa using h0
    have HF := Lib.hid (show PlayedPost w p parts most sec l (.returned (.pointer none)) w1 from .bad w1 (.inl (by rw [he]; exact h0)) (HB.out.trans (hb.mono HB.out.size)))
    clear he h0 hb
    go_wp2_with fail
    go_ret
    exact HF.out
  | good _ q he hn hok hb =>
    have hB1 := HB.out.trans (hb.mono HB.out.size)
    by_cases h60 : 60 < l.length
    · have HF := Lib.hid (show PlayedPost w p parts most sec l (.returned (.pointer none)) w1 from .bad w1 (.inr h60) hB1)
      have h60' : (60 : Int) < (l.length : Int) := by omega
      clear he hn hok hb hB1 h60
      go_wp2_with fail
      go_ret
      exact HF.out
    · have HEn := Lib.hid he; have HOk := Lib.hid hok; have HL60 := Lib.hid (show l.length ≤ 60 by omega)
      have h60' : (l.length : Int) ≤ 60 := by omega
      have HS := Lib.hid (show WoN (fun b => b < w.heap.size) w1 q (playW (newWo p parts most sec) (l.take 0)) ∧ Below w.heap.size w w1 from ⟨hn.mono fun b hb => Nat.lt_of_lt_of_le hb HB.out.size, hB1⟩)
      have HZ := Lib.hid HB.out.size
      clear he hn hok hb hB1 h60 HB
      go_wp2_with fail
      go_loopw [32] (fun i wr => ∃ k : Nat, k ≤ l.length ∧ i = .int .i64 k ∧ Hid (WoN (fun b => b < w.heap.size) wr q (playW (newWo p parts most sec) (l.take k)) ∧ Below w.heap.size w wr)) (fun i _ => l.length - (intOf i).toNat)
      case atStart => exact ⟨0, Nat.zero_le _, rfl, HS⟩
      case round =>
        clear HS
        obtain ⟨k, hk, rfl, HK⟩ := hrel
        by_cases hlt : k < l.length
        · obtain ⟨b, off, x, y, z, rfl, c0, c1, c2, hrow, ⟨z0, z1⟩, hbl⟩ := hap_row HA.out HRw.out HK.out.2 hlt
          have hk0 : (0 : Int) ≤ (k : Int) := by omega
          have hk1 : (k : Int) < (l.length : Int) := by omega
          have HRow := Lib.hid (play_snoc (m := newWo p parts most sec) hrow)
          obtain ⟨hb1, hb2⟩ := HK.out.1.boxed (.cells #[.int .i64 x, .int .i64 y, .int .i64 z] 53)
          have HN := Lib.hid hb1; have HBx := Lib.hid hb2
          have HOkk := Lib.hid (ok_play HOk.out (l.take k))
          have HLk := Lib.hid (show 0 + 1000 * (l.take k).length ≤ 88000 by have := HL60.out; rw [List.length_take]; omega)
          clear hb1 hb2 hrow
          go_wp2_with fail
          refine (woDo x y z HN.out HOkk.out HLk.out z0 z1).mono ?_
          rintro e w4 ⟨rfl, hc⟩
          have HNx := Lib.hid (show WoN (fun b => b < w.heap.size) w4 q (playW (newWo p parts most sec) (l.take (k + 1))) ∧ Below w.heap.size w w4 from by
            have h1 := WoC.unbox HBx.out hc
            refine ⟨by rw [HRow.out]; exact h1.1, HK.out.2.trans (h1.2.below HK.out.2.size (fun j hj h => h hj))⟩)
          clear hc c0 c1 c2 HK HN HBx
          go_wp2_with fail
          go_roundw
          case rel => exact ⟨k + 1, by omega, by go_num, HNx⟩
          case measure => simp [intOf]; omega
        · have hke : k = l.length := by omega
          subst hke
          have HF := Lib.hid (show PlayedPost w p parts most sec l (.returned (.pointer (some ⟨q.g, 0, none⟩))) wr from .good wr q HEn.out HL60.out (by have := HK.out.1; rw [List.take_length] at this; exact this) HOk.out HK.out.2)
          clear HK
          go_wp2_with fail
          go_ret
          exact HF.out
open Go.RowKit
def TwoW (R : Nat → Prop) (w : World) (p : Wp) (m : Wo) (p2 : Wp) (m2 : Wo) : Prop := ∃ a a2, WoIn w p a m ∧ WoIn w p2 a2 m2 ∧ (∀ b, a.P b = 0 ∨ a2.P b = 0) ∧ ∀ b, R b → a.P b = 0 ∧ a2.P b = 0 ∧ b < w.heap.size
section
variable {R : Nat → Prop} {w w' : World} {p p2 : Wp} {m m2 : Wo} {C : Nat → Prop}
theorem TwoW.swap (h : TwoW R w p m p2 m2) : TwoW R w p2 m2 p m := by
  obtain ⟨a, a2, h1, h2, h3, h4⟩ := h
  exact ⟨a2, a, h2, h1, fun b => (h3 b).symm, fun b hb => ⟨(h4 b hb).2.1, (h4 b hb).1, (h4 b hb).2.2⟩⟩
theorem WoIn.turn {a : Wg} (h : WoIn w p a m) (hc : Tide.Chg C w w') (hC : ∀ b, C b → a.P b = 0) : WoIn w' p { a with P := paint a.P 0 w w' } m := by
  have hn : ∀ k, k ≠ 0 → ∀ b, a.P b = k → ¬ C b := fun k hk b hb hcb => by have := hC b hcb; omega
  obtain ⟨k1, k2, k3, k4⟩ := h.keep1 0 hc (hn 1 (by omega))
  obtain ⟨k5, k6⟩ := h.keep4a 0 w'
  exact ⟨k1, k2, k3, h.keep2 0 hc (hn 2 (by omega)) (hn 3 (by omega)), h.keep4 0 hc (hn 4 (by omega)), k5, k6, h.keep5 0 hc (hn 5 (by omega)), h.keep6 0 hc (hn 6 (by omega)), h.keep7 0 hc (hn 7 (by omega)), k4, fun b hb => paint_lim h.lim hc.size hb⟩
theorem paint_zero {P : Nat → Nat} (hl : ∀ b, P b ≠ 0 → b < w.heap.size) (b : Nat) : paint P 0 w w' b = P b ∧ (w.heap.size ≤ b → paint P 0 w w' b = 0) := by
  have h0 : w.heap.size ≤ b → P b = 0 := fun h => by
    rcases Nat.eq_zero_or_pos (P b) with c | c
    · exact c
    · have := hl b (by omega); omega
  unfold paint
  split
  · rename_i c; exact ⟨(h0 c.1).symm, fun _ => rfl⟩
  · exact ⟨rfl, h0⟩
theorem TwoW.left (h : TwoW R w p m p2 m2) : ∃ R' : Nat → Prop, WoN R' w p m ∧ (∀ b, R b → R' b) ∧ ∀ (w' : World) (m' : Wo), WoC R' w w' p m' → TwoW R w' p m' p2 m2 ∧ Tide.Chg (fun b => ¬ R b) w w' := by
  obtain ⟨a, a2, h1, h2, h3, h4⟩ := h
  refine ⟨fun b => R b ∨ a2.P b ≠ 0, ⟨a, h1, fun b hb => ?_⟩, fun b hb => .inl hb, fun w' m' hc => ?_⟩
  · rcases hb with hb | hb
    · exact ⟨(h4 b hb).1, (h4 b hb).2.2⟩
    · exact ⟨(h3 b).resolve_right hb, h2.lim b hb⟩
  · obtain ⟨⟨a', h1', h5⟩, hch⟩ := hc
    refine ⟨⟨a', { a2 with P := paint a2.P 0 w w' }, h1', h2.turn hch (fun b hb => ?_), fun b => ?_, fun b hb => ?_⟩, hch.mono fun b _ hb hR => hb (.inl hR)⟩
    · rcases Nat.eq_zero_or_pos (a2.P b) with c | c
      · exact c
      · exact absurd (.inr (by omega)) hb
    · show a'.P b = 0 ∨ paint a2.P 0 w w' b = 0
      rw [(paint_zero h2.lim b).1]
      rcases Nat.eq_zero_or_pos (a2.P b) with c | c
      · exact .inr c
      · exact .inl (h5 b (.inr (by omega))).1
    · refine ⟨(h5 b (.inl hb)).1, ?_, (h5 b (.inl hb)).2⟩
      show paint a2.P 0 w w' b = 0
      rw [(paint_zero h2.lim b).1]; exact (h4 b hb).2.1
theorem TwoW.right (h : TwoW R w p m p2 m2) : ∃ R' : Nat → Prop, WoN R' w p2 m2 ∧ (∀ b, R b → R' b) ∧ ∀ (w' : World) (m' : Wo), WoC R' w w' p2 m' → TwoW R w' p m p2 m' ∧ Tide.Chg (fun b => ¬ R b) w w' := by
  obtain ⟨R', h1, h2, h3⟩ := h.swap.left
  exact ⟨R', h1, h2, fun w' m' hc => ⟨(h3 w' m' hc).1.swap, (h3 w' m' hc).2⟩⟩
theorem TwoW.grow (h : TwoW R w p m p2 m2) (hc : Tide.Chg (fun _ => False) w w') : TwoW (fun b => R b ∨ (w.heap.size ≤ b ∧ b < w'.heap.size)) w' p m p2 m2 := by
  obtain ⟨a, a2, h1, h2, h3, h4⟩ := h
  have hz := hc.size
  refine ⟨_, _, h1.turn hc (fun _ h => h.elim), h2.turn hc (fun _ h => h.elim), fun b => ?_, fun b hb => ?_⟩
  · show paint a.P 0 w w' b = 0 ∨ paint a2.P 0 w w' b = 0
    rw [(paint_zero h1.lim b).1, (paint_zero h2.lim b).1]; exact h3 b
  · show paint a.P 0 w w' b = 0 ∧ paint a2.P 0 w w' b = 0 ∧ _
    rcases hb with hb | hb
    · rw [(paint_zero h1.lim b).1, (paint_zero h2.lim b).1]; exact ⟨(h4 b hb).1, (h4 b hb).2.1, Nat.lt_of_lt_of_le (h4 b hb).2.2 hz⟩
    · exact ⟨(paint_zero h1.lim b).2 hb.1, (paint_zero h2.lim b).2 hb.1, hb.2⟩
theorem TwoW.mono {R' : Nat → Prop} (h : TwoW R w p m p2 m2) (hs : ∀ b, R' b → R b) : TwoW R' w p m p2 m2 := by
  obtain ⟨a, a2, h1, h2, h3, h4⟩ := h
  exact ⟨a, a2, h1, h2, h3, fun b hb => h4 b (hs b hb)⟩
theorem TwoW.below (h : TwoW R w p m p2 m2) (hb : Below w.heap.size w w') : TwoW R w' p m p2 m2 := (h.grow (Tide.Chg.of_below hb (Nat.le_refl _))).mono fun _ h => .inl h
theorem TwoW.chg (h : TwoW R w p m p2 m2) (hc : Tide.Chg (fun _ => False) w w') : TwoW R w' p m p2 m2 := (h.grow hc).mono fun _ h => .inl h
theorem TwoW.one (h : TwoW R w p m p2 m2) : WoN R w p m := by obtain ⟨R', h1, h2, _⟩ := h.left; exact h1.mono h2
theorem TwoW.two (h : TwoW R w p m p2 m2) : WoN R w p2 m2 := h.swap.one
theorem TwoW.boxed (h : TwoW R w p m p2 m2) (o : Obj) : TwoW (fun b => R b ∨ b = w.heap.size) (w.alloc o) p m p2 m2 ∧ Tide.Chg (fun b => ¬ R b) w (w.alloc o) :=
  ⟨(h.grow ((Tide.Chg.refl (fun _ => False) w).alloc o)).mono fun b hb => hb.imp id (fun e => by subst e; exact ⟨Nat.le_refl _, by simp⟩), (Tide.Chg.refl _ w).alloc o⟩
theorem TwoW.made (h1 : WoN R w p m) (hR : ∀ b, R b → b < w.heap.size) (h2 : WoN (fun b => b < w.heap.size) w' p2 m2) (hb : Below w.heap.size w w') : TwoW R w' p m p2 m2 := by
  obtain ⟨a, ha, h5⟩ := h1
  obtain ⟨a2, ha2, h6⟩ := h2
  have hz := hb.size
  refine ⟨_, a2, ha.turn (Tide.Chg.of_below (S := fun _ => False) hb (Nat.le_refl _)) (fun _ h => h.elim), ha2, fun b => ?_, fun b hb2 => ?_⟩
  · show paint a.P 0 w w' b = 0 ∨ _
    rcases Nat.lt_or_ge b w.heap.size with c | c
    · exact .inr (h6 b c).1
    · exact .inl ((paint_zero ha.lim b).2 c)
  · have := hR b hb2
    refine ⟨?_, (h6 b this).1, by omega⟩
    show paint a.P 0 w w' b = 0
    rw [(paint_zero ha.lim b).1]; exact (h5 b hb2).1
end
open Go.RowKit
set_option maxRecDepth 100000 in
set_option maxHeartbeats 1600000 in
theorem epod_equal (u v : Value) (l : List Tide.Pod) (w : World) (hu : Tide.ListIn w 3 Tide.Pod.enc u l) (hv : Tide.ListIn w 3 Tide.Pod.enc v l) (hl : l.length ≤ 100000000) :
    Calls Tryz.prog 9 #[u, v] w fun e w' => e = .returned (.bool true) ∧ Tide.Chg (fun _ => False) w w' := by
  obtain ⟨A, c, rfl, hA⟩ := hu
  obtain ⟨A', c', rfl, hA'⟩ := hv
  have HA := Lib.hid hA; have HA' := Lib.hid hA'
  clear hA hA'
  go_enter Tryz.func9, Tryz.ntmps9
  go_wp2_with fail
  go_loopw [13] (fun i wr => ∃ k : Nat, k ≤ l.length ∧ i = .int .i64 k ∧ Tide.Chg (fun _ => False) w wr) (fun i _ => l.length - (intOf i).toNat)
  case atStart => exact ⟨0, by omega, rfl, Tide.Chg.refl _ _⟩
  case round =>
    obtain ⟨k, hk, rfl, hch⟩ := hrel
    by_cases hlt : k < l.length
    · obtain ⟨b, off, e1, hb, hc⟩ := HA.out (by omega)
      obtain ⟨b', off', e1', hb', hc'⟩ := HA'.out (by omega)
      subst e1 e1'
      obtain ⟨m, hm⟩ := Tide.get_some l hlt
      have cl : ∀ (j : Nat) (u : Value), m.enc[j]? = some u → wr.cell? ⟨b, off + k * 3 + j, none⟩ = some u := fun j u hu => (World.cell?_of_block (w := w) (a := ⟨b, off + k * 3 + j, none⟩) (hch.block b hb (fun h => h))).trans (hc k m j u hm hu)
      have cl' : ∀ (j : Nat) (u : Value), m.enc[j]? = some u → wr.cell? ⟨b', off' + k * 3 + j, none⟩ = some u := fun j u hu => (World.cell?_of_block (w := w) (a := ⟨b', off' + k * 3 + j, none⟩) (hch.block b' hb' (fun h => h))).trans (hc' k m j u hm hu)
      have c0 : wr.cell? ⟨b, off + k * 3, none⟩ = _ := cl 0 _ rfl
      have d0 : wr.cell? ⟨b', off' + k * 3, none⟩ = _ := cl' 0 _ rfl
      have c1 := cl 1 _ rfl; have c2 := cl 2 _ rfl; have d1 := cl' 1 _ rfl; have d2 := cl' 2 _ rfl
      have i0 : (0 : Int) ≤ (k : Int) := by omega
      have i1 : (k : Int) < (l.length : Int) := by omega
      clear hc hc' hm HA HA' cl cl'
      go_wp2_with fail
      go_quiet (fail)
      go_wp2_with fail
      go_roundw
      case rel => exact ⟨k + 1, by omega, by go_num, hch.drewN _⟩
      case measure => simp [intOf]; omega
    · go_wp2_with fail
      go_ret
      exact ⟨rfl, hch⟩
set_option maxRecDepth 100000 in
set_option maxHeartbeats 1600000 in
theorem ereq_equal (u v : Value) (l : List Tide.Req) (w : World) (hu : Tide.ListIn w 5 Tide.Req.enc u l) (hv : Tide.ListIn w 5 Tide.Req.enc v l) (hl : l.length ≤ 100000000) :
    Calls Tryz.prog 11 #[u, v] w fun e w' => e = .returned (.bool true) ∧ Tide.Chg (fun _ => False) w w' := by
  obtain ⟨A, c, rfl, hA⟩ := hu
  obtain ⟨A', c', rfl, hA'⟩ := hv
  have HA := Lib.hid hA; have HA' := Lib.hid hA'
  clear hA hA'
  go_enter Tryz.func11, Tryz.ntmps11
  go_wp2_with fail
  go_loopw [13] (fun i wr => ∃ k : Nat, k ≤ l.length ∧ i = .int .i64 k ∧ Tide.Chg (fun _ => False) w wr) (fun i _ => l.length - (intOf i).toNat)
  case atStart => exact ⟨0, by omega, rfl, Tide.Chg.refl _ _⟩
  case round =>
    obtain ⟨k, hk, rfl, hch⟩ := hrel
    by_cases hlt : k < l.length
    · obtain ⟨b, off, e1, hb, hc⟩ := HA.out (by omega)
      obtain ⟨b', off', e1', hb', hc'⟩ := HA'.out (by omega)
      subst e1 e1'
      obtain ⟨m, hm⟩ := Tide.get_some l hlt
      have cl : ∀ (j : Nat) (u : Value), m.enc[j]? = some u → wr.cell? ⟨b, off + k * 5 + j, none⟩ = some u := fun j u hu => (World.cell?_of_block (w := w) (a := ⟨b, off + k * 5 + j, none⟩) (hch.block b hb (fun h => h))).trans (hc k m j u hm hu)
      have cl' : ∀ (j : Nat) (u : Value), m.enc[j]? = some u → wr.cell? ⟨b', off' + k * 5 + j, none⟩ = some u := fun j u hu => (World.cell?_of_block (w := w) (a := ⟨b', off' + k * 5 + j, none⟩) (hch.block b' hb' (fun h => h))).trans (hc' k m j u hm hu)
      have c0 : wr.cell? ⟨b, off + k * 5, none⟩ = _ := cl 0 _ rfl
      have d0 : wr.cell? ⟨b', off' + k * 5, none⟩ = _ := cl' 0 _ rfl
      have c1 := cl 1 _ rfl; have c2 := cl 2 _ rfl; have c3 := cl 3 _ rfl; have c4 := cl 4 _ rfl; have d1 := cl' 1 _ rfl; have d2 := cl' 2 _ rfl; have d3 := cl' 3 _ rfl; have d4 := cl' 4 _ rfl
      have i0 : (0 : Int) ≤ (k : Int) := by omega
      have i1 : (k : Int) < (l.length : Int) := by omega
      clear hc hc' hm HA HA' cl cl'
      go_wp2_with fail
      go_quiet (fail)
      go_wp2_with fail
      go_roundw
      case rel => exact ⟨k + 1, by omega, by go_num, hch.drewN _⟩
      case measure => simp [intOf]; omega
    · go_wp2_with fail
      go_ret
      exact ⟨rfl, hch⟩
end Go.Proofs.YtidonhndeohdlaaGreatDoor
