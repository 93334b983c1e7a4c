/- The walk of DeskCounts. -/
import Derived.Test.YtoidcbpcnikejaaGreatDoorDq46
set_option linter.unusedVariables false
set_option linter.unusedSimpArgs false
set_option maxRecDepth 100000
set_option maxHeartbeats 12800000
namespace Go.Proofs.YtoidcbpcnikejaaGreatDoor
open Go.RowKit
def saidN (t : ByteArray) (k : Nat) : Nat := (((linesB t).take k).filter fun l => said (wordsL l)).length
theorem saidN_next {t : ByteArray} {k : Nat} {l : List UInt8} (hl : (linesB t)[k]? = some l) : saidN t (k + 1) = saidN t k + if said (wordsL l) = true then 1 else 0 := by
 unfold saidN
 rw [G.take_of_get hl, List.filter_append, List.length_append]
 congr 1
 by_cases h : said (wordsL l) = true
 ·rw [if_pos h, List.filter_cons_of_pos (p := fun l => said (wordsL l)) h]; rfl
 rw [if_neg h, List.filter_cons_of_neg (p := fun l => said (wordsL l)) h]; rfl
theorem saidN_le (t : ByteArray) (k : Nat) : saidN t k ≤ k := by
 unfold saidN
 refine Nat.le_trans (List.length_filter_le _ _) ?_
 rw [List.length_take]; omega
theorem runT_large {t : ByteArray} (h : 65536 < t.size ∨ 200 < (linesB t).length) : runB t = ⟨#[101, 114, 114, 111, 114, 32, 50, 10]⟩ := by unfold runB; rw [if_pos h]; rfl
theorem last_ten {u : ByteArray} {M : Nat} (h : u.data.toList.getLast? = some 10) (hM : u.size = M + 1) : byteAt u M = 10 := by
 obtain ⟨b, hb, hx⟩ := byte_get (s := u) (k := M) (by omega)
 have e : u.data.toList.length = M + 1 := by rw [← G.ba_size]; exact hM
 rw [List.getLast?_eq_getElem?, e] at h
 have e2 : u.data.toList[M]? = some 10 := h
 rw [hb] at e2
 cases e2
 exact hx
theorem fold_few : ∀ (ls : List (List UInt8)) (x : Dk × ByteArray) (k : Nat), x.1.ok (k * 1000) → x.2.size ≤ k * 2000000001 → k + ls.length ≤ 200 → (ls.foldl stepD x).2.size ≤ (k + ls.length) * 2000000001
 | [], x, k, _, h, _ => h
 | l :: ls, x, k, ho, h, hk => by
  rw [List.length_cons] at hk ⊢
  rw [List.foldl_cons, show k + (ls.length + 1) = (k + 1) + ls.length by omega]
  have e : k * 1000 + 1000 = (k + 1) * 1000 := by omega
  have hm : k * 2000000001 + 2000000001 = (k + 1) * 2000000001 := (Nat.succ_mul k 2000000001).symm
  refine fold_few ls _ (k + 1) ?_ ?_ (by omega)
  ·unfold stepD
   split
   ·rw [← e]; exact doA_ok ho _ _
   exact ho.up (by omega)
  unfold stepD
  split
  ·have h1 := (doA_fine ho (by omega) (G.pieceAt (wordsL l) 0) ((wordsL l).drop 1)).le
   have e4 : (⟨#[10]⟩ : ByteArray).size = 1 := rfl
   rw [← hm, ByteArray.size_append, ByteArray.size_append, e4]
   exact Nat.add_le_add h (Nat.add_le_add_right h1 1)
  rw [← hm]; exact Nat.le_add_right_of_le h
theorem run_size (t : ByteArray) : (runB t).size ≤ 1000000000000 := by
 unfold runB
 split
 ·show dkLarge.size ≤ _; decide
 rename_i h
 have h1 := fold_few (linesB t) dkNew 0 ⟨Nat.zero_le 2048, fun m h => by cases h⟩ (by rw [Nat.zero_mul]; exact Nat.le_refl 0) (by omega)
 refine Nat.le_trans h1 (Nat.le_trans (Nat.mul_le_mul_right 2000000001 (show 0 + (linesB t).length ≤ 200 by omega)) (by decide))
theorem deskCounts_walk (t : ByteArray) (ht : t.size ≤ 2000000) (w : World) (hE : Env w) : Calls Tryz.prog 3 #[.string t] w (YesPost w) := by
 have HE := J hE; have HT := J ht
 have H1 := J (runLit _ run_t0 (by decide) w hE)
 clear hE ht
 go_enter Tryz.func3, Tryz.ntmps3
 go_wp2_with fail
 refine H1.u.mono ?_
 rintro e w1 ⟨rfl, hb1⟩
 have HB1 := J hb1
 have HE1 := J (HE.u.below hb1)
 clear hb1 H1 HE
 by_cases hbig : 65536 < t.size
 ·have hb : (65536 : Int) < (t.size : Int) := by omega
  have HR := J (runLit t (runT_large (.inl hbig)) (by have := HT.u; omega) w1 HE1.u)
  clear hbig
  go_wp2_with fail
  refine HR.u.mono ?_
  rintro e w2 ⟨rfl, hb2⟩
  have HF := J (show YesPost w (.returned (.bool true)) w2 from ⟨rfl, HB1.u.trans (hb2.mono HB1.u.size)⟩)
  clear hb2
  go_wp2_with fail
  go_ret
  exact HF.u
 have hb : ¬ (65536 : Int) < (t.size : Int) := by omega
 have HSm := J hbig
 have HLs := J (fun W => refLines t (by have := HT.u; omega) W)
 obtain ⟨L, hL⟩ : ∃ L, (linesB t).length = L := ⟨_, rfl⟩
 have HL := J hL
 clear hbig hL
 by_cases hmany : 200 < L
 ·have hm : (200 : Int) < (L : Int) := by omega
  have HR := J (runLit t (runT_large (.inr (by rw [HL.u]; exact hmany))) (by have := HT.u; omega) w1 HE1.u)
  clear hmany
  go_wp2_with fail
  refine HR.u.mono ?_
  rintro e w2 ⟨rfl, hb2⟩
  have HB2 := J (HB1.u.trans (hb2.mono HB1.u.size))
  clear hb2
  go_wp2_with fail
  refine (HLs.u _).mono ?_
  rintro e w3 ⟨v, ps, rfl, hps, hw, hb3⟩
  obtain ⟨A, cap, rfl, hcap, _⟩ := hw
  have hpl : ps.length = L := by rw [← HL.u, ← hps, List.length_map]
  rw [hpl]
  have HF := J (show YesPost w (.returned (.bool true)) w3 from ⟨rfl, HB2.u.trans (hb3.mono HB2.u.size)⟩)
  clear hps hb3 hpl
  go_wp2_with fail
  go_ret
  exact HF.u
 have hm : ¬ (200 : Int) < (L : Int) := by omega
 have hm2 : (L : Int) ≤ 200 := by omega
 have hm3 : L ≤ 200 := by omega
 have hrc := run_counts t (by have := HSm.u; omega) (by rw [HL.u]; omega)
 have hus := run_size t
 obtain ⟨U, hU⟩ : ∃ U, runB t = U := ⟨_, rfl⟩
 rw [hU] at hrc hus
 have HUs := J hus
 have HRc := J (show saidN t L ≤ U.data.toList.count 10 ∧ (U.data.toList = [] ∨ U.data.toList.getLast? = some 10) from ⟨by
  unfold saidN
  rw [← HL.u, List.take_length]
  exact hrc.1, hrc.2⟩)
 have HR := J (runLit t hU (by have := HT.u; omega) w1 HE1.u)
 have HM3 := J hm3
 clear hmany hrc hU hm3 hus
 go_wp2_with fail
 refine HR.u.mono ?_
 rintro e w2 ⟨rfl, hb2⟩
 have HB2 := J (HB1.u.trans (hb2.mono HB1.u.size))
 have HE2 := J (HE1.u.below hb2)
 clear hb2 HR HE1
 go_wp2_with fail
 refine (HLs.u _).mono ?_
 rintro e w3 ⟨v, ps, rfl, hps, hw, hb3⟩
 obtain ⟨A, cap, rfl, hcap, _⟩ := hw
 have hpl : ps.length = L := by rw [← HL.u, ← hps, List.length_map]
 rw [hpl]
 have HB3 := J (HB2.u.trans (hb3.mono HB2.u.size))
 have HE3 := J (HE2.u.below hb3)
 clear hps hb3 hpl hcap HE2
 go_wp2_with fail
 refine (HLs.u _).mono ?_
 rintro e w4 ⟨v, ps, rfl, hps, hw, hb4⟩
 obtain ⟨A, cap, rfl, hcap, hA⟩ := hw
 have hpl : ps.length = L := by rw [← HL.u, ← hps, List.length_map]
 have HA := J (show 0 < L → ∃ b off, A = some ⟨b, off, none⟩ ∧ WdsAt w4 b off ps from fun h => hA (by omega))
 have HPs := J hps; have HPl := J hpl
 rw [hpl] at hcap ⊢
 have HB4 := J (HB3.u.trans (hb4.mono HB3.u.size))
 clear hps hb4 hpl hA HLs HE3
 go_wp2_with fail
 go_loopw [4, 26] (fun n i wr => ∃ k : Nat, k ≤ L ∧ i = .int .i64 k ∧ n = .int .i64 (saidN t k : Nat) ∧ Hid (Below w4.heap.size w4 wr)) (fun _ i _ => L - (intOf i).toNat)
 case atStart => exact ⟨0, by omega, rfl, rfl, J (Below.refl _ _)⟩
 obtain ⟨k, hk, rfl, rfl, HBr⟩ := hrel
 by_cases hlt : k < L
 ·obtain ⟨b, off, rfl, hW⟩ := HA.u (by omega)
  obtain ⟨y, hy⟩ := G.get_some ps (i := k) (by have := HPl.u; omega)
  have c0 : wr.cell? ⟨b, off + k, none⟩ = some (.string y) := (hW.below HBr.u).cell k y hy
  have hln : (linesB t)[k]? = some y.data.toList := by rw [← HPs.u, List.getElem?_map, hy]; rfl
  have hyl : y.size ≤ 65536 := by
   have h1 : k < (linesB t).length := by rw [HL.u]; exact hlt
   rw [lines_get h1] at hln
   have h2 := G.pieces_le 10 _ _ (List.mem_of_getElem? hln)
   rw [← G.ba_size, ← G.ba_size] at h2
   have := HSm.u; omega
  have k0 : (0 : Int) ≤ (k : Int) := by omega
  have k1 : (k : Int) < (L : Int) := by omega
  have HNx := J (saidN_next hln)
  have hsn := saidN_le t k
  have HWd := J (fun W => refWords y (by omega) W)
  have HLt := J hlt
  have hsn2 : (saidN t k : Int) ≤ 200 := by have := HM3.u; omega
  have hsn0 : (0 : Int) ≤ (saidN t k : Int) := by omega
  clear hW hy hln hyl hlt hsn
  generalize saidN t k = z at hsn2 hsn0 HNx ⊢
  go_wp2_with fail
  refine (HWd.u _).mono ?_
  rintro e w6 ⟨v6, rfl, hw6, hb6⟩
  have HB6 := J (HBr.u.trans (hb6.mono HBr.u.size))
  have HIn := J (words_in (l := y.data.toList))
  obtain ⟨A6, cap6, rfl, hcap6, hA6⟩ := hw6
  clear hb6 HWd c0
  cases hws : wordsL y.data.toList with
  | nil =>
   have hsd := said_nil hws
   rw [hsd, if_neg (by decide), Nat.add_zero] at HNx
   clear hsd hws hA6 hcap6
   go_wp2_with fail
   go_roundw
   case rel => exact ⟨k + 1, by have := HLt.u; omega, by go_num, by rw [HNx.u]; rfl, HB6⟩
   case measure => have := HLt.u; simp [intOf]; omega
  | cons w0 rest =>
   rw [hws] at hcap6 hA6
   obtain ⟨b8, off8, rfl, hW8⟩ := hA6 (by simp)
   have c8 : w6.cell? ⟨b8, off8, none⟩ = some (.string w0) := hW8.cell 0 w0 rfl
   have hin := HIn.u
   rw [hws] at hin
   have hw0 : 0 < w0.size := (hin.1 w0 (by simp)).1
   have hw1 : (0 : Int) < (w0.size : Int) := by omega
   have e7 := byte_at hw0
   obtain ⟨n8, hn8⟩ : ∃ n, (w0 :: rest).length = n := ⟨_, rfl⟩
   have n0 : (0 : Int) < (n8 : Int) := by rw [← hn8]; simp
   have nz : ¬ n8 = 0 := by omega
   rw [hn8]
   have HWs := J hws
   clear hA6 hcap6 hW8 hin hws hn8 HIn
   by_cases hc : byteAt w0 0 = 35
   ·rw [hc] at e7
    have hsd := said_no HWs.u ((head_35 hw0).2 hc)
    rw [hsd, if_neg (by decide), Nat.add_zero] at HNx
    clear hsd hc
    go_wp2_with fail
    go_roundw
    case rel => exact ⟨k + 1, by have := HLt.u; omega, by go_num, by rw [HNx.u]; rfl, HB6⟩
    case measure => have := HLt.u; simp [intOf]; omega
   have hsd := said_yes HWs.u (fun h => hc ((head_35 hw0).1 h))
   rw [hsd, if_pos rfl] at HNx
   generalize byteAt w0 0 = x at hc e7
   have hxx : ¬ (x : Int) = 35 := by omega
   clear hsd hc
   go_wp2_with fail
   go_roundw
   case rel => exact ⟨k + 1, by have := HLt.u; omega, by go_num, by rw [HNx.u]; go_num, HB6⟩
   case measure => have := HLt.u; simp [intOf]; omega
 obtain rfl : k = L := by omega
 have HCt := J (Tryz.strings_Count_one U 10 wr)
 have HF := J (show YesPost w (.returned (.bool true)) wr from ⟨rfl, HB4.u.trans (HBr.u.mono HB4.u.size)⟩)
 obtain ⟨cU, hcU⟩ : ∃ c, Lib.countByte U.data.toList 10 = c := ⟨_, rfl⟩
 rw [hcU] at HCt
 have hge : (saidN t k : Int) ≤ (cU : Int) := by
  have h1 := HRc.u.1
  have h2 : U.data.toList.count 10 = cU := hcU
  rw [h2] at h1; omega
 obtain ⟨eb, heb⟩ : ∃ eb, U.toList.isEmpty = eb := ⟨_, rfl⟩
 clear hcU hlt hk
 generalize saidN t k = z at hge ⊢
 go_wp2_with fail
 refine HCt.u.mono ?_
 rintro e w5 ⟨rfl, rfl⟩
 cases eb
 ·have hne : U.data.toList ≠ [] := fun h => by rw [ByteArray.toList_eq, h] at heb; cases heb
  have hlast := HRc.u.2.resolve_left hne
  obtain ⟨M, hM⟩ : ∃ M, U.size = M + 1 := ⟨U.size - 1, by
   have : 0 < U.size := by rw [G.ba_size]; exact List.length_pos_iff.2 hne
   omega⟩
  have hbt := last_ten hlast hM
  have hus := HUs.u
  have q1 : IntKind.i64.wrap ((U.size : Int) - 1) = (M : Int) := by
   have e := IntWalk.i64_in ((U.size : Int) - 1) (by omega)
   rw [e]; omega
  have i0 : (0 : Int) ≤ (M : Int) := by omega
  have i1 : (M : Int) < (U.size : Int) := by omega
  have hmu : M < U.size := by omega
  have e7 := byte_at (s := U) (k := M) hmu
  rw [hbt] at e7
  clear hne hlast hbt hus hM
  go_wp2_with fail
  go_ret
  exact HF.u
 go_wp2_with fail
 go_ret
 exact HF.u
end Go.Proofs.YtoidcbpcnikejaaGreatDoor
