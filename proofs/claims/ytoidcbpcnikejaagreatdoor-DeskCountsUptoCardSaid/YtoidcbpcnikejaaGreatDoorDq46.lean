/- Parts of this claim: DskU, DskZ. -/
import Derived.Test.YtoidcbpcnikejaaGreatDoorDq45
set_option linter.unusedVariables false
set_option linter.unusedSimpArgs false
set_option maxRecDepth 100000
set_option maxHeartbeats 12800000
namespace Go.Proofs.YtoidcbpcnikejaaGreatDoor
open Go.RowKit
theorem head_35 {d : ByteArray} (h : 0 < d.size) : d.data.toList.head? = some 35 ↔ byteAt d 0 = 35 := by
 obtain ⟨b, hb, hx⟩ := byte_get h
 rw [hx, List.head?_eq_getElem?, hb]
 constructor
 ·intro e; cases e; rfl
 intro e; rw [UInt8.toNat_inj.1 (show b.toNat = (35 : UInt8).toNat from e)]
theorem words_in {l : List UInt8} : (∀ x ∈ wordsL l, 0 < x.size ∧ x.size ≤ l.length) ∧ (wordsL l).length ≤ l.length + 1 := by
 unfold wordsL
 refine ⟨fun x hx => ?_, ?_⟩
 ·obtain ⟨p, hp, rfl⟩ := List.mem_map.1 hx
  rw [List.mem_filter] at hp
  have h1 := G.pieces_le 32 l p hp.1
  have e : (⟨p.toArray⟩ : ByteArray).size = p.length := by rw [G.ba_size, List.toList_toArray]
  rw [e]
  refine ⟨?_, h1⟩
  cases p with
  | nil => exact absurd hp.2 (by simp)
  | cons a p => exact Nat.zero_lt_succ _
 rw [List.length_map]
 have h1 := List.length_filter_le (fun p : List UInt8 => !p.isEmpty) (G.pieces 32 l)
 rw [G.pieces_many] at h1
 have h2 := List.count_le_length (a := (32 : UInt8)) (l := l)
 omega
def SplPost (l : List UInt8) (w : World) (e : Ending) (w' : World) : Prop := ∃ b ps, e = .returned (.slice (some ⟨b, 0, none⟩) (List.length ps) ps.length) ∧ ps.map (fun x : ByteArray => x.data.toList) = G.pieces 32 l ∧ WdsAt w' b 0 ps ∧ Below w.heap.size w w'
theorem splitW {l : List UInt8} (hl : l.length ≤ 1000000) {w : World} (hE : Env w) : Calls Tryz.prog 11 #[.string ⟨l.toArray⟩, .string ⟨#[32]⟩] w (SplPost l w) := by
 obtain ⟨m, hm⟩ := hE.len
 refine (shlSplit 32 ⟨l.toArray⟩ m w (by rw [G.ba_size, List.toList_toArray]; exact hl) hm).mono ?_
 rintro e w' ⟨rfl, rfl⟩
 refine ⟨_, G.piecesB 32 ⟨l.toArray⟩, rfl, ?_, ⟨fun i x hx => ?_, by simp⟩, (Below.refl _ _).alloc (Nat.le_refl _) _⟩
 ·have h := G.piecesB_data 32 ⟨l.toArray⟩
  rw [List.toList_toArray] at h
  exact h
 rw [Nat.zero_add]
 exact (G.At.made w 9 _).here (by rw [List.getElem?_toArray, List.getElem?_map, hx]; rfl)
theorem trimL {y : ByteArray} {p : List UInt8} (hy : y.size ≤ 9223372036854775807) (h : Lib.trimSuffix y.data.toList [10] = p) (w : World) : Calls Tryz.prog 12 #[.string y, .string ⟨#[10]⟩] w fun e w' => e = .returned (.string ⟨p.toArray⟩) ∧ w = w' := by
 have h2 := Tryz.strings_TrimSuffix y ⟨#[10]⟩ w hy
 rw [show (⟨#[10]⟩ : ByteArray).data.toList = [10] from rfl, h] at h2
 exact h2.mono fun _ _ ⟨h3, h4⟩ => ⟨h3, h4.symm⟩
theorem said_nil {l : List UInt8} (h : wordsL l = []) : said (wordsL l) = false := by rw [h]; rfl
theorem said_no {l : List UInt8} {w0 : ByteArray} {rest : List ByteArray} (h : wordsL l = w0 :: rest) (h1 : w0.data.toList.head? = some 35) : said (wordsL l) = false := by rw [h]; show (!(w0.data.toList.head? == some 35)) = false; rw [h1]; rfl
theorem said_yes {l : List UInt8} {w0 : ByteArray} {rest : List ByteArray} (h : wordsL l = w0 :: rest) (h1 : ¬ w0.data.toList.head? = some 35) : said (wordsL l) = true := by rw [h]; show (!(w0.data.toList.head? == some 35)) = true; simpa using h1
theorem deskRun (t : ByteArray) (ht : t.size ≤ 3000000) (w : World) (hE : Env w) : Calls Tryz.prog 5 #[.string t] w (DRunPost t w) := by
 obtain ⟨i0', hi, hz0, hz1, hz2⟩ := info_split info_text
 obtain ⟨m, hm⟩ := hE.len
 have HA := J (deskAfter t ht m w hm)
 have HE := J hE; have HT := J ht
 clear hm hE ht
 go_enter Tryz.func5, Tryz.ntmps5
 go_wp2_with fail
 refine HA.u.mono ?_
 rintro e w2 ⟨b, ls, rfl, ha, hw, hb⟩
 have hpos := ha.pos; have hfew := ha.few
 obtain ⟨Nl, hNl⟩ : ∃ n, ls.length = n + 1 := ⟨ls.length - 1, by omega⟩
 obtain ⟨x, hx⟩ := G.get_some ls (i := Nl) (by omega)
 have hct := ha.cut (x := x) (by rw [List.getLast?_eq_getElem?, hNl]; exact hx)
 have c0 : w2.cell? ⟨b, Nl, none⟩ = some (.string x) := by have := hw.cell Nl x hx; rwa [Nat.zero_add] at this
 obtain ⟨L, hL⟩ : ∃ L, (linesB t).length = L := ⟨_, rfl⟩
 rw [hL] at hct
 have HAft := J ha; have HWd := J hw; have HB := J hb; have HL := J hL
 obtain ⟨M, hM⟩ : ∃ M, ls.length = M := ⟨_, rfl⟩
 have HM := J hM
 rw [hM] at hNl hct hfew ⊢
 have hM3 : M ≤ 3000001 := by have := HT.u; omega
 have q1 : IntKind.i64.wrap ((M : Int) - 1) = (Nl : Int) := by
  have e := IntWalk.i64_in ((M : Int) - 1) (by omega)
  rw [e]; omega
 have i0 : (0 : Int) ≤ (Nl : Int) := by omega
 have i1 : (Nl : Int) < (M : Int) := by omega
 have i2 : (Nl : Int) ≤ (M : Int) := by omega
 have HLM := J (show L ≤ M by split at hct <;> omega)
 have HNl := J hNl
 obtain ⟨eb, heb⟩ : ∃ eb, x.toList.isEmpty = eb := ⟨_, rfl⟩
 have HCt := J (show L = if eb = true then M - 1 else M from by
  rw [hct, ← heb, ByteArray.toList_eq]
  by_cases h : x.data.toList = []
  ·rw [if_pos h, if_pos (by rw [h]; rfl)]
  rw [if_neg h, if_neg (by simpa using h)])
 clear ha hw hb hL hM hpos hfew hM3 hx HA hNl hct
 go_upto_if 19 with fail
 go_cut [3] from 11 (fun v wx => v = .slice (some ⟨b, 0, none⟩) L M ∧ w2 = wx)
 case first =>
  cases eb
  ·have hct := HCt.u
   rw [if_neg (by decide)] at hct
   subst hct
   go_wp2_with fail
   go_meet
   exact ⟨rfl, rfl⟩
  have hct := HCt.u
  rw [if_pos rfl, HNl.u, Nat.add_sub_cancel] at hct
  subst hct
  go_wp2_with fail
  go_meet
  exact ⟨rfl, rfl⟩
 obtain ⟨rfl, rfl⟩ := hcut
 clear c0 q1 i0 i1 i2 heb HCt
 by_cases hbig : 65536 < t.size
 ·have hb1 : (65536 : Int) < (t.size : Int) := by omega
  have HF := J (run_large (.inl hbig) HB.u)
  clear hbig
  go_wp2_with fail
  go_ret
  exact HF.u
 have hb1 : ¬ (65536 : Int) < (t.size : Int) := by omega
 by_cases hmany : 200 < L
 ·have hb2 : (200 : Int) < (L : Int) := by omega
  have HF := J (run_large (t := t) (.inr (by rw [HL.u]; exact hmany)) HB.u)
  clear hmany hbig
  go_wp2_with fail
  go_ret
  exact HF.u
 have hb2 : ¬ (200 : Int) < (L : Int) := by omega
 have hb3 : (L : Int) ≤ 200 := by omega
 have HSm := J (show ¬ (65536 < t.size ∨ 200 < (linesB t).length) by rw [HL.u]; omega)
 clear hmany hbig
 go_upto_region 8 with fail
 have hs3 : (w2.alloc (.cells #[.string ⟨#[]⟩, .pointer none] 32)).heap.size = w2.heap.size + 1 := by simp
 have hs4 : ((w2.alloc (.cells #[.string ⟨#[]⟩, .pointer none] 32)).alloc (.cells #[.pointer none, .slice none 0 0] 36)).heap.size = w2.heap.size + 2 := by simp
 have hd4 := (G.At.made w2 32 #[.string ⟨#[]⟩, .pointer none]).alloc (.cells #[.pointer none, .slice none 0 0] 36)
 have hb4 := bd_new (N := w2.heap.size) (w2.alloc (.cells #[.string ⟨#[]⟩, .pointer none] 32)) (by rw [hs3]; omega)
 have hB4 := ((Below.refl w2.heap.size w2).alloc (Nat.le_refl _) (.cells #[.string ⟨#[]⟩, .pointer none] 32)).alloc (by rw [hs3]; omega) (.cells #[.pointer none, .slice none 0 0] 36)
 rw [hs3] at hb4
 clear hs3
 generalize ((w2.alloc (.cells #[.string ⟨#[]⟩, .pointer none] 32)).alloc (.cells #[.pointer none, .slice none 0 0] 36)) = w4 at hd4 hb4 hB4 hs4 ⊢
 obtain ⟨N, hN⟩ : ∃ N, w2.heap.size = N := ⟨_, rfl⟩
 have HE4 := J ((HE.u.below HB.u).below hB4)
 have HGN := J (show 7 ≤ N by have := HE.u.glob; have := HB.u.size; omega)
 have HW4 := J (HWd.u.below hB4)
 have HbN := J (show b < N from hN ▸ HWd.u.lt)
 have HB4 := J hB4; have HN := J hN
 rw [hN] at hd4 hb4 hs4 ⊢
 have HS := J (RunAt.start (t := t) hd4 hb4 hs4)
 clear hd4 hb4 hB4 hs4 hN HWd
 go_wp2_with fail
 go_loopw [37] (fun i wr => ∃ (k : Nat) (x : Dk × ByteArray) (v : Value), k ≤ L ∧ i = .int .i64 k ∧ Hid (RunAt t N w4 k wr x v)) (fun i _ => L - (intOf i).toNat)
 case atStart => exact ⟨0, _, _, by omega, rfl, HS⟩
 clear HS
 obtain ⟨wq, rfl⟩ : ∃ q : World, q = wr := ⟨_, rfl⟩
 obtain ⟨k, x, v, hk, rfl, HR⟩ := hrel
 by_cases hlt : k < L
 ·obtain ⟨y, hy⟩ := G.get_some ls (i := k) (by have := HM.u; have := HLM.u; omega)
  have c0 : wq.cell? ⟨b, k, none⟩ = some (.string y) := by
   have := (HW4.u.chg HR.u.chg (by have := HbN.u; omega)).cell k y hy
   rwa [Nat.zero_add] at this
  obtain ⟨p, hp, htr, hps, hys⟩ := HAft.u.get hy (by rw [HL.u]; exact hlt)
  have hts := HT.u
  have htl : t.size ≤ 65536 := by have := HSm.u; omega
  have k0 : (0 : Int) ≤ (k : Int) := by omega
  have k1 : (k : Int) < (L : Int) := by omega
  have HLn := J hp
  have HTr := J (fun W => trimL (y := y) (by omega) htr W)
  have HSp := J (splitW (l := p) (w := wq) (by omega) (HR.u.env HE4.u HGN.u))
  have HPl := J (show p.length ≤ 65536 by omega)
  have HLt := J hlt
  clear hy hp htr hps hys hts htl
  go_wp2_with fail
  refine (HTr.u _).mono ?_
  rintro e w5 ⟨rfl, rfl⟩
  go_wp2_with fail
  refine HSp.u.mono ?_
  rintro e w6 ⟨b6, ps, rfl, hps, hw6, hb6⟩
  have HWf := J (words_full hps)
  have hmany : ps.length ≤ 65537 := by
   have := congrArg List.length hps
   rw [List.length_map, G.pieces_many] at this
   have h2 := List.count_le_length (a := (32 : UInt8)) (l := p)
   have := HPl.u; omega
  have HMy := J hmany
  have hm2 : (ps.length : Int) ≤ 65537 := by omega
  have HW6 := J hw6; have HB6 := J hb6
  clear hps hw6 hb6 hmany HTr HSp c0 k0 k1 hlt
  go_wp2_with fail
  go_loopw [8, 45] (fun o i wi => ∃ k2 : Nat, k2 ≤ ps.length ∧ i = .int .i64 k2 ∧ Hid (WRun ((ps.take k2).filter full) w6 wi o)) (fun _ i _ => ps.length - (intOf i).toNat)
  case atStart => exact ⟨0, by omega, rfl, J ⟨G.OwnRow.nil _ _ _ _, Below.refl _ _⟩⟩
  obtain ⟨k2, hk2, rfl, HQ⟩ := hrel
  obtain ⟨A2, cap2, rfl, _, _, _⟩ := HQ.u.row.slice
  by_cases hlt2 : k2 < ps.length
  ·obtain ⟨z, hz⟩ := G.get_some ps hlt2
   have c0 : wr.cell? ⟨b6, k2, none⟩ = some (.string z) := by
    have := (HW6.u.below HQ.u.bel).cell k2 z hz
    rwa [Nat.zero_add] at this
   have HN0 := J (filter_take hz)
   have k0 : (0 : Int) ≤ (k2 : Int) := by omega
   have k1 : (k2 : Int) < (ps.length : Int) := by omega
   have HLt2 := J hlt2
   clear hz
   by_cases hf : z.data.toList = []
   ·have e0 : (z.toList == []) = true := by rw [ByteArray.toList_eq, hf]; rfl
    have e1 : (z.toList != []) = false := by rw [ByteArray.toList_eq, hf]; rfl
    have HNw := J (show WRun ((ps.take (k2 + 1)).filter full) w6 wr _ by rw [HN0.u, if_neg (by unfold full; rw [hf]; simp)]; exact HQ.u)
    clear hf
    go_wp2_with fail
    go_roundw
    case rel => exact ⟨k2 + 1, by have := HLt2.u; omega, by go_num, HNw⟩
    case measure => have := HLt2.u; simp [intOf]; omega
   have e0 : (z.toList == []) = false := by rw [ByteArray.toList_eq]; simpa using hf
   have e1 : (z.toList != []) = true := by rw [ByteArray.toList_eq]; simpa using hf
   have hfl : ((ps.take k2).filter full).length ≤ 65537 := by
    have h1 := List.length_filter_le full (ps.take k2)
    rw [List.length_take] at h1
    have := HMy.u; omega
   have hm3 := J (show ((ps.take k2).filter full).length + 1 ≤ maxLen by simp only [maxLen]; omega)
   have hm4 := J (show (((ps.take k2).filter full).length + 1) * 16 ≤ 140737488355328 by omega)
   have HFx := J (show full z = true by unfold full; cases h : z.data.toList; exact absurd h hf; rfl)
   clear hf hfl
   generalize (ps.take k2).filter full = ks at HQ HN0 hm3 hm4 ⊢
   go_wp2_with (at_builtin; refine wpList_append_lies _ (by rfl) (.tmp 51) (.tmp 53) 23 (by rfl) 0 9 i0' (.string ByteArray.empty) 1 16 Tryz.underlying23 hi hz0 hz1 hz2 rfl (by decide) (.slice A2 ks.length cap2) _ _ rfl (HQ.u.row.alloc _).owns ⟨wr.heap.size, 0, none⟩ 1 1 [.string z] rfl rfl (G.new_cells wr _ _) (by simp [Value.oneCell']) (by decide) hm3.u hm4.u (Nat.zero_le _) _ rfl ?_)
   intro b2 cap3 w3 hown hg ho hlt3
   have HNw := J (show WRun ((ps.take (k2 + 1)).filter full) w6 w3 _ by
    rw [HN0.u, if_pos HFx.u]
    exact HQ.u.next hown hg (by
     rcases ho with e | e
     ·left; exact e.symm
     right; show some b2 = _; rw [e] <;> simp))
   clear hown hg ho hlt3 c0
   go_wp2_with fail
   go_roundw
   case rel => exact ⟨k2 + 1, by have := HLt2.u; omega, by go_num, HNw⟩
   case measure => have := HLt2.u; simp [intOf]; omega
  obtain rfl : k2 = ps.length := by omega
  have hwl := HWf.u
  have hr := HQ.u
  rw [List.take_length, hwl] at hr
  obtain ⟨n8, hn8⟩ : ∃ n, ((ps.take ps.length).filter full).length = n := ⟨_, rfl⟩
  have hn9 : (wordsL p).length = n8 := by rw [← hn8, List.take_length, hwl]
  rw [hn8] at ⊢
  rw [hn9] at hr
  have HBr := J (show Below wq.heap.size wq wr from HB6.u.trans (hr.bel.mono HB6.u.size))
  have HIn := J (words_in (l := p))
  clear hwl hn8 hlt2 hk2 hm2 HMy HWf
  cases hws : wordsL p with
  | nil =>
   rw [hws] at hn9
   obtain rfl : n8 = 0 := hn9.symm
   have HNx := J (HR.u.skip HLn.u (said_nil hws) HBr.u)
   clear hws hn9 hr
   go_wp2_with fail
   go_roundw
   case rel => exact ⟨k + 1, x, v, by have := HLt.u; omega, by go_num, HNx⟩
   case measure => have := HLt.u; simp [intOf]; omega
  | cons w0 rest =>
   rw [hws] at hn9 hr
   have hn0 : 0 < n8 := by rw [← hn9]; exact Nat.zero_lt_succ _
   obtain ⟨b8, cap8, e8, hS8, h18, _, hrow8⟩ := hr.row.form (by rw [hn9]; exact hn0)
   rw [hn9] at e8 h18
   obtain ⟨rfl, _, rfl⟩ := slice_eq e8
   have hW8 : WdsAt wr b8 0 (w0 :: rest) := ⟨fun i y hy => by rw [Nat.zero_add]; exact hrow8.cell (by rw [List.getElem?_map, hy]; rfl), hrow8.inside⟩
   have c8 : wr.cell? ⟨b8, 0, none⟩ = some (.string w0) := hW8.cell 0 w0 rfl
   have hin := HIn.u
   rw [hws] at hin
   have hw0 : 0 < w0.size := (hin.1 w0 (by simp)).1
   have hw1 : (0 : Int) < (w0.size : Int) := by omega
   have e7 := byte_at hw0
   have n0 : (0 : Int) < (n8 : Int) := by omega
   have HW8 := J hW8
   have HS8 := J (show w6.heap.size ≤ b8 from hS8)
   have HI8 := J hrow8.inside
   have HN9 := J hn9; have H18 := J h18; have HIn2 := J hin; have HWs := J hws
   clear hr e8 hS8 h18 hrow8 hW8 hin hn9 hws HQ HIn
   by_cases hc : byteAt w0 0 = 35
   ·rw [hc] at e7
    have HNx := J (HR.u.skip HLn.u (said_no HWs.u ((head_35 hw0).2 hc)) HBr.u)
    clear hc
    go_wp2_with fail
    go_roundw
    case rel => exact ⟨k + 1, x, v, by have := HLt.u; omega, by go_num, HNx⟩
    case measure => have := HLt.u; simp [intOf]; omega
   have HSd := J (said_yes HWs.u (fun h => hc ((head_35 hw0).1 h)))
   obtain ⟨A, d2, hA⟩ : ∃ A d2, doA x.1 w0 rest = (A, d2) := ⟨_, _, rfl⟩
   have hlk := HLt.u
   have hfine := doA_fine HR.u.ok (by omega) w0 rest
   rw [hA] at hfine
   have hout : A.say.size ≤ 2000000000 := hfine.le
   have HAns := J (show Calls Tryz.prog 14 #[.pointer (some ⟨N, 0, none⟩), .slice (some ⟨b8, 0, none⟩) n8 cap2] wr (LnPost (RunR2 N v wq wr) wr N (A, d2)) from by
    rw [← hA]
    exact deskAnswer (R := RunR2 N v wq wr) (j := k * 1000) _ w0 rest wr ⟨_, _, by rw [HN9.u], by rw [HN9.u]; exact H18.u, fun _ => ⟨b8, 0, rfl, HW8.u⟩⟩ (fun b' o' n' c' e' => by cases e'; exact .inr ⟨by have := HB6.u.size; have := HS8.u; omega, HI8.u⟩) (fun b' hb' => .inl (.inl ⟨by have := HGN.u; omega, by have := HGN.u; omega⟩)) (fun y hy => by have := (HIn2.u.1 y hy).2; have := HPl.u; omega) (by have := HIn2.u.2; have := HPl.u; omega) (HR.u.ready HBr.u) HR.u.ok (by omega) ((HR.u.env HE4.u HGN.u).below HBr.u))
   have HA := J (show doA x.1 (G.pieceAt (wordsL p) 0) ((wordsL p).drop 1) = (A, d2) by rw [HWs.u]; exact hA)
   have hone : (⟨#[10]⟩ : ByteArray).size = 1 := rfl
   have z1 : ¬ 9223372036854775807 ≤ A.say.size := by omega
   have z2 : A.say.size + 1 ≤ 9223372036854775807 := by omega
   have HSz := J (show x.2.size + (A.say ++ ⟨#[10]⟩).size ≤ 1000000000000 by
    have h1 := HR.u.few
    have h2 : k * 2000000001 ≤ 200 * 2000000001 := Nat.mul_le_mul_right _ (by omega)
    rw [ByteArray.size_append, hone]
    exact Nat.le_trans (Nat.add_le_add (Nat.le_trans h1 h2) (Nat.add_le_add_right hout 1)) (by decide))
   generalize byteAt w0 0 = z at hc e7
   have hzz : ¬ (z : Int) = 35 := by omega
   have hlk2 := J (show k < 200 by omega)
   clear hA hfine hout hone hc hlk
   go_wp2_with fail
   refine HAns.u.mono ?_
   rintro e w7 hp
   have he := hp.ans
   have HPst := J hp
   have HTx := J (HR.u.text HBr.u hp)
   clear hp
   subst he
   go_wp2_with fail
   refine (writeString _ HTx.u.1 HTx.u.2 HSz.u).mono ?_
   rintro e w8 hw
   have he := hw.1
   obtain ⟨v9, hN9⟩ := HR.u.say HLn.u HSd.u HBr.u HA.u HPst.u hw hlk2.u
   have HNx := J hN9
   clear hw hN9
   subst he
   go_wp2_with fail
   go_roundw
   case rel => exact ⟨k + 1, _, v9, by have := HLt.u; omega, by go_num, HNx⟩
   case measure => have := HLt.u; simp [intOf]; omega
 obtain rfl : k = L := by omega
 have HTx := J (builderText HR.u.bd (by have := HR.u.size; omega))
 clear hlt hk
 go_wp2_with fail
 refine HTx.u.mono ?_
 rintro e w9 ⟨rfl, hb9⟩
 have HF := J (RunAt.done (by rw [HL.u]; exact HR.u) HSm.u HB.u HN.u HB4.u hb9)
 clear hb9
 go_wp2_with fail
 go_ret
 exact HF.u
open Go.RowKit
theorem run_t0 : runB ⟨#[35, 10, 10, 116, 105, 99, 107, 32, 49]⟩ = ⟨#[101, 114, 114, 111, 114, 32, 55, 10]⟩ := by kernel_rfl
def YesPost (w : World) (e : Ending) (w' : World) : Prop := e = .returned (.bool true) ∧ Below w.heap.size w w'
theorem runLit (t : ByteArray) {r : ByteArray} (hr : runB t = r) (ht : t.size ≤ 3000000) (w : World) (hE : Env w) : Calls Tryz.prog 5 #[.string t] w fun e w' => e = .returned (.string r) ∧ Below w.heap.size w w' := by
 rw [← hr]; exact deskRun t ht w hE
end Go.Proofs.YtoidcbpcnikejaaGreatDoor
