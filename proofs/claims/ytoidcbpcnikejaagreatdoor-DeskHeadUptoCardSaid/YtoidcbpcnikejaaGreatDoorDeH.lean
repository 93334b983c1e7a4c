/- The walk of DeskHead. -/
import Derived.Test.YtoidcbpcnikejaaGreatDoorDq46
set_option linter.unusedVariables false
set_option linter.unusedSimpArgs false
set_option maxRecDepth 100000
set_option maxHeartbeats 12800000
namespace Go.Proofs.YtoidcbpcnikejaaGreatDoor
open Go.RowKit
theorem pieces_sep (c : UInt8) (b : List UInt8) : ∀ a : List UInt8, G.pieces c (a ++ c :: b) = G.pieces c a ++ G.pieces c b
 | [] => by rw [List.nil_append, G.pieces_eq]; rfl
 | x :: a => by
  have ih := pieces_sep c b a
  by_cases hx : x = c
  ·subst hx; rw [List.cons_append, G.pieces_eq, G.pieces_eq, ih]; rfl
  obtain ⟨p, ps, e⟩ := G.pieces_cons c a
  rw [e] at ih
  rw [List.cons_append, G.pieces_ne hx (show G.pieces c (a ++ c :: b) = p :: (ps ++ G.pieces c b) from ih), G.pieces_ne hx e]; rfl
theorem words_nil : said (wordsL []) = false := by decide
theorem step_nil (x : Dk × ByteArray) : stepD x [] = x := by unfold stepD; rw [words_nil]; rfl
theorem fold_lines (t : ByteArray) (x : Dk × ByteArray) : (linesB t).foldl stepD x = (G.pieces 10 t.data.toList).foldl stepD x := by
 unfold linesB
 split
 ·rename_i h
  have hne : G.pieces 10 t.data.toList ≠ [] := fun e => by rw [e] at h; cases h
  have e := List.dropLast_concat_getLast hne
  have e2 : (G.pieces 10 t.data.toList).getLast hne = [] := by rw [List.getLast?_eq_some_getLast hne] at h; exact Option.some.inj h
  rw [e2] at e
  conv => rhs; rw [← e]
  rw [List.foldl_append, List.foldl_cons, List.foldl_nil, step_nil]
 rfl
theorem lines_le (t : ByteArray) : (linesB t).length ≤ (G.pieces 10 t.data.toList).length := by
 unfold linesB; split
 ·simp
 exact Nat.le_refl _
theorem lines_head (a b : ByteArray) : (linesB a).length ≤ (linesB (a ++ ⟨#[10]⟩ ++ b)).length := by
 have e : (a ++ ⟨#[10]⟩ ++ b).data.toList = a.data.toList ++ 10 :: b.data.toList := by simp
 have h1 := lines_le a
 have hb := G.pieces_pos 10 b.data.toList
 have e2 : linesB (a ++ ⟨#[10]⟩ ++ b) = if (G.pieces 10 a.data.toList ++ G.pieces 10 b.data.toList).getLast? = some [] then (G.pieces 10 a.data.toList ++ G.pieces 10 b.data.toList).dropLast else G.pieces 10 a.data.toList ++ G.pieces 10 b.data.toList := by
  unfold linesB; rw [e, pieces_sep]
 rw [e2]
 split
 ·rw [List.length_dropLast, List.length_append]; omega
 rw [List.length_append]; omega
theorem run_head (a b : ByteArray) (h1 : (a ++ ⟨#[10]⟩ ++ b).size ≤ 65536) (h2 : (linesB (a ++ ⟨#[10]⟩ ++ b)).length ≤ 200) : ∃ r : ByteArray, runB (a ++ ⟨#[10]⟩ ++ b) = runB a ++ r := by
 have h3 := lines_head a b
 have h4 : a.size ≤ 65536 := by rw [ByteArray.size_append, ByteArray.size_append] at h1; omega
 have e1 : runB a = ((G.pieces 10 a.data.toList).foldl stepD dkNew).2 := by unfold runB; rw [if_neg (by omega), fold_lines]
 have e2 : runB (a ++ ⟨#[10]⟩ ++ b) = ((G.pieces 10 b.data.toList).foldl stepD ((G.pieces 10 a.data.toList).foldl stepD dkNew)).2 := by
  unfold runB; rw [if_neg (by omega), fold_lines]
  have e : (a ++ ⟨#[10]⟩ ++ b).data.toList = a.data.toList ++ 10 :: b.data.toList := by simp
  rw [e, pieces_sep, List.foldl_append]
 obtain ⟨r, e3, _, _⟩ := fold_grows (G.pieces 10 b.data.toList) ((G.pieces 10 a.data.toList).foldl stepD dkNew)
 exact ⟨r, by rw [e2, e1, e3]⟩
def zL1 : List UInt8 := [100, 97, 116, 101, 32, 48, 32, 54, 48]
def zL2 : List UInt8 := [110, 101, 120, 116, 32, 48, 32, 48, 32, 51, 48, 32, 54, 32, 42, 32, 42, 32, 42]
def zJ : ByteArray := ⟨#[51, 48, 32, 54, 32, 42, 32, 42, 32, 42]⟩
def zW : List ByteArray := [⟨#[48]⟩, ⟨#[48]⟩, ⟨#[51, 48]⟩, ⟨#[54]⟩, ⟨#[42]⟩, ⟨#[42]⟩, ⟨#[42]⟩]
def zX : Dk × ByteArray := (⟨⟨#[]⟩, none⟩, ⟨#[49, 57, 55, 48, 45, 49, 45, 49, 32, 49, 58, 48, 58, 48, 32, 52, 10]⟩)
theorem z_lines : linesB ⟨#[100, 97, 116, 101, 32, 48, 32, 54, 48, 10, 110, 101, 120, 116, 32, 48, 32, 48, 32, 51, 48, 32, 54, 32, 42, 32, 42, 32, 42, 10]⟩ = [zL1, zL2] := by kernel_rfl
theorem z_one : stepD dkNew zL1 = zX := by kernel_rfl
theorem z_words : wordsL zL2 = vNext :: zW := by kernel_rfl
theorem z_min : G.firstUnder ((crOf zJ).minB 0 0 1) 1440 = some 390 := by
 have h : G.firstUnder ((crOf zJ).minB 0 0 1) 391 = some 390 := by kernel_rfl
 obtain ⟨_, h2, h3⟩ := G.under_some h
 exact G.under_is (by decide) h2 h3
theorem z_day : (crOf zJ).inDay 0 0 1 = some 23400 := by
 unfold Cr.inDay
 rw [z_min]; kernel_rfl
theorem z_h0 : dayAt 0 0 1 0 = 0 := by kernel_rfl
theorem z_fit : (crOf zJ).dayFit 0 0 = true := by kernel_rfl
theorem z_hit : (crOf zJ).hit 0 0 1 0 = true := by
 unfold Cr.hit
 rw [z_h0, z_fit, z_day]; rfl
theorem z_first : G.firstUnder ((crOf zJ).hit 0 0 1) 3001 = some 0 := G.under_is (by decide) z_hit (fun k hk => absurd hk (Nat.not_lt_zero k))
theorem seek_of {c : Cr} {s h : Int} {i : Nat} (hf : G.firstUnder (c.hit s h 1) 3001 = some i) : c.seekO s h 1 = inTime (c.inDay (dayAt s h 1 i) s 1) := by
 unfold Cr.seekO
 rw [hf]
theorem in_time {n : Int} (h : ¬ (n < -100000000000 ∨ 100000000000 < n)) : inTime (some n) = some n := if_neg h
theorem z_cr : (crOf zJ).seekO 0 0 1 = some 23400 := by
 rw [seek_of z_first, z_h0, z_day]
 exact in_time (by decide)
theorem z_ok : (crOf zJ).ok = true ∧ okTime 0 0 := ⟨by kernel_rfl, by decide⟩
theorem z_next : nextA zW = .text ⟨#[50, 51, 52, 48, 48]⟩ := by
 rw [nextA_is (ws := zW) (Jo := zJ) (s := 0) (z := 0) (T := 23400) (E := 0) (B := true) (by decide) (by kernel_rfl) (by kernel_rfl) (by kernel_rfl) (by kernel_rfl) (by kernel_rfl)
  (by unfold Cr.seekN; rw [if_pos z_ok, z_cr]; rfl) (by unfold Cr.seekB; rw [if_pos z_ok, z_cr]; rfl) (by unfold Cr.seekE; rw [if_pos z_ok.1, if_pos z_ok.2])]
 rw [if_neg (by decide)]
 kernel_rfl
theorem z_two : stepD zX zL2 = (zX.1, zX.2 ++ (⟨#[50, 51, 52, 48, 48]⟩ ++ ⟨#[10]⟩)) := by
 have h : said (wordsL zL2) = true := by kernel_rfl
 have hd : doA zX.1 (G.pieceAt (wordsL zL2) 0) ((wordsL zL2).drop 1) = (.text ⟨#[50, 51, 52, 48, 48]⟩, zX.1) := by
  rw [z_words]
  show doA zX.1 vNext zW = _
  rw [doA_next rfl, z_next]
 unfold stepD
 rw [if_pos h, hd]; rfl
theorem run_t1 : runB ⟨#[100, 97, 116, 101, 32, 48, 32, 54, 48, 10, 110, 101, 120, 116, 32, 48, 32, 48, 32, 51, 48, 32, 54, 32, 42, 32, 42, 32, 42, 10]⟩ = ⟨#[49, 57, 55, 48, 45, 49, 45, 49, 32, 49, 58, 48, 58, 48, 32, 52, 10, 50, 51, 52, 48, 48, 10]⟩ := by
 unfold runB
 rw [z_lines, if_neg (by decide), List.foldl_cons, z_one, List.foldl_cons, z_two]
 kernel_rfl
theorem prefix_yes (a b : ByteArray) : Lib.hasPrefix (a ++ b).data.toList a.data.toList = true := by
 unfold Lib.hasPrefix
 rw [List.isPrefixOf_iff_prefix, ByteArray.data_append, Array.toList_append]
 exact List.prefix_append _ _
theorem deskHead_walk (a b : ByteArray) (ht : a.size + b.size ≤ 2000000) (w : World) (hE : Env w) : Calls Tryz.prog 4 #[.string a, .string b] w (YesPost w) := by
 have HE := J hE
 have H1 := J (runLit _ run_t1 (by decide) w hE)
 have hone : (⟨#[10]⟩ : ByteArray).size = 1 := rfl
 have z1 : a.size + (⟨#[10]⟩ : ByteArray).size ≤ 9223372036854775807 := by omega
 have z2 : (a ++ ⟨#[10]⟩).size + b.size ≤ 9223372036854775807 := by rw [ByteArray.size_append]; omega
 have y1 : ¬ 9223372036854775807 ≤ a.size := by omega
 have y2 : ¬ 9223372036854775807 < a.size + 1 + b.size := by omega
 have y3 : a.size + 1 + b.size ≤ 9223372036854775807 := by omega
 have HT := J ht
 clear hE ht hone
 go_enter Tryz.func4, Tryz.ntmps4
 go_wp2_with fail
 refine H1.u.mono ?_
 rintro e w1 ⟨rfl, hb1⟩
 have HB1 := J hb1
 have HE1 := J (HE.u.below hb1)
 clear hb1 H1 HE
 go_upto_region 4 with fail
 obtain ⟨c, hc⟩ : ∃ c, a ++ ⟨#[10]⟩ ++ b = c := ⟨_, rfl⟩
 have hcs : c.size = a.size + 1 + b.size := by rw [← hc, ByteArray.size_append, ByteArray.size_append]; rfl
 have HC := J hc
 rw [hc]
 have HCs := J hcs
 clear hc hcs z1 z2 y1 y2 y3
 by_cases hbig : 65536 < c.size
 ·have hb : (65536 : Int) < (c.size : Int) := by omega
  clear hbig
  go_wp2_with fail
  go_ret
  exact ⟨rfl, HB1.u⟩
 have hb : ¬ (65536 : Int) < (c.size : Int) := by omega
 have HL := J (refLines c (by have := HCs.u; have := HT.u; omega) w1)
 have HSm := J hbig
 clear hbig
 go_wp2_with fail
 refine HL.u.mono ?_
 rintro e w2 ⟨v, ps, rfl, hps, hw, hb2⟩
 obtain ⟨A, cap, rfl, hcap, _⟩ := hw
 have HB2 := J (HB1.u.trans (hb2.mono HB1.u.size))
 have HE2 := J (HE1.u.below hb2)
 have HPs := J (show (linesB c).length = ps.length by rw [← hps, List.length_map])
 clear hps hb2 HL HE1
 by_cases hmany : 200 < ps.length
 ·have hm : (200 : Int) < (ps.length : Int) := by omega
  have HF := J (show YesPost w (.returned (.bool true)) w2 from ⟨rfl, HB2.u⟩)
  clear hmany
  go_wp2_with fail
  go_ret
  exact HF.u
 have hm : ¬ (200 : Int) < (ps.length : Int) := by omega
 obtain ⟨r, hr⟩ := run_head a b (by rw [HC.u]; have := HSm.u; omega) (by rw [HC.u, HPs.u]; omega)
 rw [HC.u] at hr
 have HR1 := J (runLit c hr (by have := HSm.u; omega) w2 HE2.u)
 have HPf := J (prefix_yes (runB a) r)
 have HR2 := J (fun W (h : Env W) => runLit a rfl (by have := HCs.u; have := HSm.u; omega) W h)
 clear hmany hr
 generalize runB a = X at HR1 HR2 HPf
 go_wp2_with fail
 refine HR1.u.mono ?_
 rintro e w3 ⟨rfl, hb3⟩
 have HB3 := J (HB2.u.trans (hb3.mono HB2.u.size))
 have HE3 := J (HE2.u.below hb3)
 clear hb3
 go_wp2_with fail
 refine (HR2.u _ HE3.u).mono ?_
 rintro e w4 ⟨rfl, hb4⟩
 have HB4 := J (HB3.u.trans (hb4.mono HB3.u.size))
 clear hb4
 go_wp2_with fail
 refine (Tryz.strings_HasPrefix (X ++ r) X w4).mono ?_
 rintro e w5 ⟨rfl, rfl⟩
 rw [HPf.u]
 have HF := J (show YesPost w (.returned (.bool true)) w5 from ⟨rfl, HB4.u⟩)
 go_wp2_with fail
 go_ret
 exact HF.u
end Go.Proofs.YtoidcbpcnikejaaGreatDoor
