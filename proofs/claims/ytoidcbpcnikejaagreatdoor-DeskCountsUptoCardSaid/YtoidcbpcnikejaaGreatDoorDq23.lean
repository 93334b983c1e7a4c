/- Parts of this claim: PrtP, PtxM, PpnM. -/
import Derived.Test.YtoidcbpcnikejaaGreatDoorDqPrtC
import Derived.Test.YtoidcbpcnikejaaGreatDoorDqCrnP
set_option linter.unusedVariables false
set_option linter.unusedSimpArgs false
set_option maxRecDepth 100000
set_option maxHeartbeats 12800000
namespace Go.Proofs.YtoidcbpcnikejaaGreatDoor
open Go.RowKit
def Cr.set (c : Cr) : Nat → Nat
 | 0 => c.mi
 | 1 => c.h
 | 2 => c.d
 | 3 => c.mo
 | _ => c.wk
def Cr.anyAt (c : Cr) : Nat → Bool
 | 2 => c.ad
 | 4 => c.aw
 | _ => true
theorem Cr.set_fits {c : Cr} (h : c.fits) (k : Nat) : Word (c.set k) := by
 obtain ⟨h0, h1, h2, h3, h4⟩ := h
 unfold Cr.set Word
 split <;> assumption
theorem Cr.set_cell (c : Cr) (k : Nat) (hk : k < 5) : c.cells[k]? = some (.int .u64 (c.set k : Int)) := by
 match k, hk with
 | 0, _ => rfl
 | 1, _ => rfl
 | 2, _ => rfl
 | 3, _ => rfl
 | 4, _ => rfl
theorem Cr.any_none (c : Cr) (k : Nat) (hk : k < 5) : anK k = none → c.anyAt k = true := by
 match k, hk with
 | 0, _ => intro _; rfl
 | 1, _ => intro _; rfl
 | 2, _ => intro h; cases h
 | 3, _ => intro _; rfl
 | 4, _ => intro h; cases h
theorem Cr.any_some (c : Cr) (k : Nat) (hk : k < 5) : ∀ j, anK k = some j → c.cells[j]? = some (.bool (c.anyAt k)) := by
 match k, hk with
 | 0, _ => intro j h; cases h
 | 1, _ => intro j h; cases h
 | 2, _ => intro j h; cases h; rfl
 | 3, _ => intro j h; cases h
 | 4, _ => intro j h; cases h; rfl
def Cr.txt (c : Cr) (k : Nat) : ByteArray := G.fieldTxt (c.set k) (G.lim k).1 (G.lim k).2 (c.anyAt k)
def Cr.txts (c : Cr) (k : Nat) : List ByteArray := (List.range k).map c.txt
def Cr.text (c : Cr) : ByteArray := G.joinB 32 (c.txts 5)
theorem Cr.txts_len (c : Cr) (k : Nat) : (c.txts k).length = k := by unfold Cr.txts; rw [List.length_map, List.length_range]
theorem Cr.txts_next (c : Cr) (k : Nat) : c.txts (k + 1) = c.txts k ++ [c.txt k] := by unfold Cr.txts; rw [List.range_succ, List.map_append]; rfl
theorem Cr.txts_size (c : Cr) (k : Nat) : ∀ x ∈ c.txts k, x.size ≤ 400 := by
 intro x hx
 obtain ⟨i, _, rfl⟩ := List.mem_map.1 hx
 exact G.fieldTxt_size _ _ _ _ (G.lim_le i).2
structure PrRun (c : Cr) (w wr : World) (h g k : Nat) (x : Value) : Prop where
 below : Below w.heap.size w wr
 tab : G.At wr h 142 (fieldCells g)
 row : G.At wr g 92 c.cells
 parts : G.OwnRow (fun b => w.heap.size ≤ b) wr 9 1 x k ((c.txts k).map Value.string)
theorem PrRun.next {c : Cr} {w wr w' : World} {h g k : Nat} {x : Value} (H : PrRun c w wr h g k x) (hb : Below wr.heap.size wr w') : PrRun c w w' h g k x :=
 ⟨H.below.trans (hb.mono H.below.size), H.tab.below hb H.tab.inside, H.row.below hb H.row.inside, H.parts.below hb (Nat.le_refl _)⟩
theorem PrRun.app {c : Cr} {w wr w5 : World} {h g k : Nat} {A : Option Addr} {cap b2 cap2 : Nat} (H : PrRun c w wr h g k (.slice A k cap))
  (hown : w5.ownsRow 0 9 1 (.slice (some ⟨b2, 0, none⟩) (k + 1) cap2) (k + 1) ((c.txts k).map Value.string ++ [.string (c.txt k)]))
  (hg : (wr.alloc (.cells #[.string (c.txt k)] 9)).grownBy w5 (Value.slice A k cap).ownBlock)
  (ho : (Value.slice A k cap).ownBlock = some b2 ∨ b2 = wr.heap.size + 1) (hlt2 : b2 < w5.heap.size) :
  PrRun c w w5 h g (k + 1) (.slice (some ⟨b2, 0, none⟩) (k + 1) cap2) := by
 have HS := H.next ((Below.refl _ _).alloc (Nat.le_refl _) (.cells #[.string (c.txt k)] 9))
 have a1 := HS.parts.apartAt HS.row (by decide)
 have a2 := HS.parts.apartAt HS.tab (by decide)
 obtain ⟨r1, r2⟩ := HS.parts.app hown hg (ho.imp id (fun e => e.trans (by simp))) hlt2
 refine ⟨HS.below.trans (r2.below HS.below.size (fun b hb h => by omega)), HS.tab.grown hg (fun e => a2 _ e rfl), HS.row.grown hg (fun e => a1 _ e rfl), ?_⟩
 rw [c.txts_next, List.map_append]
 exact r1.mono (fun b _ hb => by
  have := HS.below.size
  rcases hb with hb | hb
  ·exact hb
  omega)
def PrintPost (c : Cr) (w : World) (e : Ending) (w' : World) : Prop := e = .returned (.tuple #[.string (if c.err = 0 then c.text else ⟨#[]⟩), .int .i64 c.err]) ∧ Below w.heap.size w w'
theorem cronPrint (c : Cr) (hf : c.fits) (w : World) : Calls Tryz.prog 84 #[.agg c.cells] w (PrintPost c w) := by
 have hB := G.At.made w 92 c.cells
 have hb := (Below.refl w.heap.size w).alloc (Nat.le_refl _) (.cells c.cells 92)
 have HB := J hB; have HBl := J hb
 have HF := J hf
 obtain ⟨it, hit, hz0, hz1, hz2⟩ := info_split info_text
 clear hB hb hf
 go_enter Tryz.func84, Tryz.ntmps84
 go_upto_region 1 with fail
 generalize w.alloc (.cells c.cells 92) = W at HB HBl ⊢
 have x0 := HB.u.here (i := 0) (c.set_cell 0 (by decide)); have x1 := HB.u.here (i := 1) (c.set_cell 1 (by decide)); have x2 := HB.u.here (i := 2) (c.set_cell 2 (by decide)); have x3 := HB.u.here (i := 3) (c.set_cell 3 (by decide)); have x4 := HB.u.here (i := 4) (c.set_cell 4 (by decide))
 have x5 := HB.u.here (i := 5) rfl
 have x6 := HB.u.here (i := 6) rfl
 go_wp2_with fail
 refine (cronCheck c HF.u _).mono ?_
 rintro e w1 ⟨rfl, hb1⟩
 have HBl1 := J (HBl.u.trans (hb1.mono HBl.u.size))
 have HB1 := J (HB.u.below hb1 HB.u.inside)
 clear x0 x1 x2 x3 x4 x5 x6 hb1 HB HBl
 by_cases he : c.err = 0
 ·have HQ := J (fun w' (hb : Below w.heap.size w w') => (show PrintPost c w (.returned (.tuple #[.string c.text, .int .i64 0])) w' from ⟨by rw [if_pos he, he], hb⟩))
  rw [he]
  clear he
  go_wp2_with fail
  refine (cronFields w.heap.size _ c.cells HB1.u rfl).mono ?_
  rintro e w3 ⟨h, rfl, hh, ha, hb3⟩
  have HP := J (show PrRun c w w3 h w.heap.size 0 (.slice none 0 0) from ⟨HBl1.u.trans (hb3.mono HBl1.u.size), ha, HB1.u.below hb3 HB1.u.inside, G.OwnRow.nil _ _ _ _⟩)
  clear hh ha hb3 HB1 HBl1
  generalize w.heap.size = g at HP ⊢
  go_wp2_with fail
  go_loopw [5, 15] (fun x y wr => ∃ k : Nat, k ≤ 5 ∧ y = .int .i64 k ∧ Hid (PrRun c w wr h g k x)) (fun _ y _ => 5 - (intOf y).toNat)
  case atStart => exact ⟨0, by omega, rfl, HP⟩
  clear HP
  obtain ⟨k, hk, rfl, HP⟩ := hrel
  have i0 : (0 : Int) ≤ (k : Int) := by omega
  obtain ⟨A, cap, rfl, hcA, hcB, _⟩ := HP.u.parts.slice
  by_cases hlt : k < 5
  ·have i1 : (k : Int) < 5 := by omega
   have htx := fun W hA => cronText k g (c.set k) (anK k) (c.anyAt k) c.cells W hA (Cr.set_fits HF.u k) (c.set_cell k hlt) (c.any_none k hlt) (c.any_some k hlt)
   unfold fieldV at htx
   obtain ⟨t0, t1, t2, t3⟩ := fields_at HP.u.tab k hlt
   obtain ⟨P, hP⟩ : ∃ P, anyV g (anK k) = .pointer P := by cases anK k <;> exact ⟨_, rfl⟩
   rw [hP] at t3 htx
   have HTx := J htx
   have HP1 := J (HP.u.next ((Below.refl _ _).alloc (Nat.le_refl _) (.cells #[.pointer (some ⟨g, k, none⟩), .int .i64 ((G.lim k).1 : Nat), .int .i64 ((G.lim k).2 : Nat), .pointer P] 142)))
   have hB := G.At.made wr 142 #[.pointer (some ⟨g, k, none⟩), .int .i64 ((G.lim k).1 : Nat), .int .i64 ((G.lim k).2 : Nat), .pointer P]
   have HLt := J hlt
   clear htx hP HP hlt
   go_upto_region 8 with fail
   have x0 := hB.here (i := 0) rfl; have x1 := hB.here (i := 1) rfl; have x2 := hB.here (i := 2) rfl; have x3 := hB.here (i := 3) rfl
   clear hB t0 t1 t2 t3
   go_wp2_with fail
   refine (HTx.u _ HP1.u.row).mono ?_
   rintro e w4 ⟨rfl, hb4⟩
   rw [show G.fieldTxt (c.set k) (G.lim k).1 (G.lim k).2 (c.anyAt k) = c.txt k from rfl]
   have HP4 := J (HP1.u.next hb4)
   have HOx := J (HP4.u.parts.alloc (.cells #[.string (c.txt k)] 9))
   have HM3 := J (show k + 1 ≤ maxLen by simp only [maxLen]; omega)
   have HM4 := J (show (k + 1) * 16 ≤ 140737488355328 by omega)
   clear HP1 HTx hb4 x0 x1 x2 x3
   go_wp2_with (at_builtin; go_loud (refine wpList_append_lies _ (by rfl) (.tmp 19) (.tmp 22) 23 (by rfl) 0 9 it (.string ByteArray.empty) 1 16 Tryz.underlying23 hit hz0 hz1 hz2 rfl (by decide) (.slice A k cap) _ _ rfl HOx.u.owns ⟨w4.heap.size, 0, none⟩ 1 1 [.string (c.txt k)] rfl rfl (G.new_one rfl) (by simp [Value.oneCell']) (by decide) HM3.u HM4.u (Nat.zero_le _) _ rfl ?_))
   intro b2 cap2 w5 hown hg ho hlt2
   have HN := J (HP4.u.app hown hg ho hlt2)
   clear hown hg ho hlt2 HOx HP4
   go_wp2_with fail
   go_roundw
   case rel => exact ⟨k + 1, HLt.u, by go_num, HN⟩
   case measure => have := HLt.u; simp [intOf]; omega
  have hke : k = 5 := by omega
  subst hke
  have i1 : (5 : Int) ≤ ((5 : Nat) : Int) := by omega
  have hsz := G.joinB_size 32 (k := 400) (c.txts_size 5)
  rw [c.txts_len 5] at hsz
  have HSz := J (show (Lib.join ((c.txts 5).map (·.data.toList)) [32]).length ≤ 140737488355328 by
   have e := G.ba_size (G.joinB 32 (c.txts 5))
   have e2 : (G.joinB 32 (c.txts 5)).data.toList = Lib.join ((c.txts 5).map (·.data.toList)) [32] := rfl
   rw [e2] at e
   omega)
  obtain ⟨b, cap', e, _, _, _, hr⟩ := HP.u.parts.form (by decide)
  cases e
  have hl5 := c.txts_len 5
  have hj := Tryz.strings_Join b 0 cap (c.txts 5) ⟨#[32]⟩ wr (fun j x hx => by rw [Nat.zero_add]; exact hr.cell (by rw [List.getElem?_map, hx]; rfl)) hr.inside (by omega) (by omega) HSz.u
  rw [hl5] at hj
  have HJ := J hj
  have HBx := J HP.u.below
  clear hr hj HP hsz hl5 hlt
  go_wp2_with fail
  refine HJ.u.mono ?_
  rintro e w4 ⟨rfl, hb4⟩
  have HR := J (HQ.u w4 (HBx.u.trans (hb4.mono HBx.u.size)))
  clear hb4
  go_wp2_with fail
  go_ret2
  exact HR.u
 have HQ := J (show PrintPost c w (.returned (.tuple #[.string ⟨#[]⟩, .int .i64 c.err])) w1 from ⟨by rw [if_neg he], HBl1.u⟩)
 go_wp2_with fail
 go_ret2
 exact HQ.u
open Go.RowKit
def spanTxt (n : Int) (a b : ByteArray) : ByteArray := (((((⟨#[115, 112, 97, 110, 32]⟩ : ByteArray) ++ G.itoB n ++ ⟨#[32]⟩) ++ a) ++ ⟨#[32, 47, 32]⟩) ++ b) ++ ⟨#[10]⟩
def Trg.text (t : Trg) : ByteArray :=
 if t.kind = 1 then G.lineB ⟨#[108, 97, 103]⟩ [t.target, t.act]
 else if t.kind = 2 then G.lineB ⟨#[100, 101, 112, 116, 104]⟩ [t.target, t.act]
 else spanTxt t.target t.a.text t.b.text
def Pln.row0 (p : Pln) : ByteArray := G.lineB ((⟨#[112, 108, 97, 110, 32]⟩ : ByteArray) ++ p.name) [p.mn, p.mx, p.poll, p.cool]
def Pln.row1 (p : Pln) : ByteArray := G.lineB ⟨#[114, 101, 115, 116]⟩ [p.tol, p.back, p.after, p.shift]
def Pln.row2 (p : Pln) : ByteArray := G.lineB ⟨#[117, 112]⟩ [p.up.win, p.up.pods, p.up.pct, p.up.per]
def Pln.row3 (p : Pln) : ByteArray := G.lineB ⟨#[100, 111, 119, 110]⟩ [p.down.win, p.down.pods, p.down.pct, p.down.per]
def Pln.top (p : Pln) : ByteArray := ((p.row0 ++ p.row1) ++ p.row2) ++ p.row3
def Pln.up2 (p : Pln) (k : Nat) : ByteArray := (p.trigs.take k).foldl (fun a t => a ++ t.text) p.top
def Pln.text (p : Pln) : ByteArray := p.trigs.foldl (fun a t => a ++ t.text) p.top
theorem Pln.up2_next {p : Pln} {k : Nat} {t : Trg} (h : p.trigs[k]? = some t) : p.up2 (k + 1) = p.up2 k ++ t.text := by
 unfold Pln.up2
 rw [List.take_add_one, h, List.foldl_append]; rfl
theorem Pln.up2_all {p : Pln} : p.up2 p.trigs.length = p.text := by unfold Pln.up2 Pln.text; rw [List.take_length]
structure Pln.fine (p : Pln) : Prop where
 name : p.name.size ≤ 16
 i0 : ∀ x ∈ [p.mn, p.mx, p.poll, p.cool], IntW x
 i1 : ∀ x ∈ [p.tol, p.back, p.after, p.shift], IntW x
 i2 : ∀ x ∈ [p.up.win, p.up.pods, p.up.pct, p.up.per], IntW x
 i3 : ∀ x ∈ [p.down.win, p.down.pods, p.down.pct, p.down.per], IntW x
 few : p.trigs.length ≤ 5
 each : ∀ t ∈ p.trigs, trigE t = 0
theorem four_in {a b c d lo hi : Int} {P : Int → Prop} (ha : P a) (hb : P b) (hc : P c) (hd : P d) : ∀ x ∈ [a, b, c, d], P x := by
 intro x hx
 simp only [List.mem_cons, List.not_mem_nil, or_false] at hx
 rcases hx with rfl | rfl | rfl | rfl <;> assumption
theorem IntW.of {n lo hi : Int} (h : wiB n lo hi = true) (h0 : -9223372036854775808 ≤ lo) (h1 : hi ≤ 9223372036854775807) : IntW n := by
 rw [wiB_iff] at h
 exact ⟨by omega, by omega⟩
theorem planE_fine {p : Pln} (h : planE p = 0) : p.fine := by
 unfold planE at h
 split at h
 ·cases h
 split at h
 ·cases h
 split at h
 ·cases h
 rename_i h1 h2 h3
 have h1' : nameOk p.name = true := by simpa using h1
 have h3' : p.nums = true := by simpa using h3
 unfold nameOk at h1'
 unfold Pln.nums paceOk at h3'
 simp only [Bool.and_eq_true] at h1' h3'
 obtain ⟨a, b, c, d, e, f, g, i, ⟨u1, u2, u3, u4⟩, ⟨d1, d2, d3, d4⟩⟩ := h3'
 have hn := wiB_iff.1 h1'.2
 have hb : IntW p.mx := by have := wiB_iff.1 b; exact ⟨by omega, by omega⟩
 refine ⟨by omega, ?_, ?_, ?_, ?_, by omega, trigsE_mem h⟩
 ·exact four_in (lo := 0) (hi := 0) (.of a (by decide) (by decide)) hb (.of c (by decide) (by decide)) (.of d (by decide) (by decide))
 ·exact four_in (lo := 0) (hi := 0) (.of e (by decide) (by decide)) (.of f (by decide) (by decide)) (.of g (by decide) (by decide)) (.of i (by decide) (by decide))
 ·exact four_in (lo := 0) (hi := 0) (.of u1 (by decide) (by decide)) (.of u2 (by decide) (by decide)) (.of u3 (by decide) (by decide)) (.of u4 (by decide) (by decide))
 exact four_in (lo := 0) (hi := 0) (.of d1 (by decide) (by decide)) (.of d2 (by decide) (by decide)) (.of d3 (by decide) (by decide)) (.of d4 (by decide) (by decide))
theorem trigE_cases {t : Trg} (h : trigE t = 0) : ((t.kind = 1 ∨ t.kind = 2) ∧ IntW t.target ∧ IntW t.act) ∨ (t.kind = 3 ∧ IntW t.target ∧ t.a.err = 0 ∧ t.b.err = 0) := by
 unfold trigE at h
 split at h
 ·rename_i hk
  split at h
  ·rename_i h1
   simp only [Bool.and_eq_true] at h1
   exact .inl ⟨hk, .of h1.1 (by decide) (by decide), .of h1.2.1 (by decide) (by decide)⟩
  cases h
 split at h
 ·rename_i hk
  split at h
  ·rename_i h1
   simp only [Bool.and_eq_true] at h1
   refine .inr ⟨hk, .of h1.1 (by decide) (by decide), ?_⟩
   unfold spanE at h
   unfold Cr.err at h ⊢
   revert h
   cases t.a.ok <;> cases t.b.ok <;> simp
  cases h
 cases h
theorem Cr.text_size (c : Cr) : c.text.size ≤ 2005 := by
 have h := G.joinB_size 32 (c.txts_size 5)
 rw [c.txts_len] at h
 exact h
theorem spanTxt_size {n : Int} (hn : IntW n) {a b : ByteArray} (ha : a.size ≤ 2005) (hb : b.size ≤ 2005) : (spanTxt n a b).size ≤ 4050 := by
 have h1 := G.itoB_size hn
 have e1 : (⟨#[115, 112, 97, 110, 32]⟩ : ByteArray).size = 5 := rfl
 have e2 : (⟨#[32]⟩ : ByteArray).size = 1 := rfl
 have e3 : (⟨#[32, 47, 32]⟩ : ByteArray).size = 3 := rfl
 have e4 : (⟨#[10]⟩ : ByteArray).size = 1 := rfl
 unfold spanTxt
 simp only [ByteArray.size_append]
 omega
theorem two_in {a b : Int} {P : Int → Prop} (ha : P a) (hb : P b) : ∀ x ∈ [a, b], P x := by
 intro x hx
 simp only [List.mem_cons, List.not_mem_nil, or_false] at hx
 rcases hx with rfl | rfl <;> assumption
theorem Trg.text_size {t : Trg} (h : trigE t = 0) : t.text.size ≤ 4050 := by
 unfold Trg.text
 rcases trigE_cases h with ⟨hk, h1, h2⟩ | ⟨hk, h1, _⟩
 ·have l1 := G.lineB_size (w := ⟨#[108, 97, 103]⟩) (two_in h1 h2)
  have l2 := G.lineB_size (w := ⟨#[100, 101, 112, 116, 104]⟩) (two_in h1 h2)
  have e1 : (⟨#[108, 97, 103]⟩ : ByteArray).size = 3 := rfl
  have e2 : (⟨#[100, 101, 112, 116, 104]⟩ : ByteArray).size = 5 := rfl
  have e3 : [t.target, t.act].length = 2 := rfl
  split
  ·omega
  rw [if_pos (by omega)]; omega
 rw [if_neg (by omega), if_neg (by omega)]
 exact spanTxt_size h1 t.a.text_size t.b.text_size
theorem row_size {w : ByteArray} {a b c d : Int} (h : ∀ x ∈ [a, b, c, d], IntW x) (hw : w.size ≤ 21) : (G.lineB w [a, b, c, d]).size ≤ 110 := by
 have := G.lineB_size (w := w) h
 have e3 : [a, b, c, d].length = 4 := rfl
 omega
theorem Pln.word_size {p : Pln} (h : p.fine) : ((⟨#[112, 108, 97, 110, 32]⟩ : ByteArray) ++ p.name).size ≤ 21 := by
 rw [ByteArray.size_append]
 have e1 : (⟨#[112, 108, 97, 110, 32]⟩ : ByteArray).size = 5 := rfl
 have := h.name
 omega
theorem Pln.row0_size {p : Pln} (h : p.fine) : p.row0.size ≤ 110 := row_size h.i0 (Pln.word_size h)
theorem Pln.row1_size {p : Pln} (h : p.fine) : p.row1.size ≤ 110 := row_size h.i1 (by decide)
theorem Pln.row2_size {p : Pln} (h : p.fine) : p.row2.size ≤ 110 := row_size h.i2 (by decide)
theorem Pln.row3_size {p : Pln} (h : p.fine) : p.row3.size ≤ 110 := row_size h.i3 (by decide)
theorem Pln.top_size {p : Pln} (h : p.fine) : p.top.size ≤ 440 := by
 have := row0_size h; have := row1_size h; have := row2_size h; have := row3_size h
 unfold Pln.top
 simp only [ByteArray.size_append]
 omega
theorem fold_size {l : List Trg} {w : ByteArray} (h : ∀ t ∈ l, trigE t = 0) : (l.foldl (fun a t => a ++ t.text) w).size ≤ w.size + 4050 * l.length := by
 induction l generalizing w with
 | nil => exact Nat.le_refl _
 | cons t l ih =>
  have h1 := ih (w := w ++ t.text) (fun x hx => h x (List.mem_cons_of_mem _ hx))
  have h2 := Trg.text_size (h t (by simp))
  rw [ByteArray.size_append] at h1
  show (l.foldl (fun a t => a ++ t.text) (w ++ t.text)).size ≤ _
  rw [List.length_cons]
  omega
theorem Pln.up2_size {p : Pln} (h : p.fine) (k : Nat) : (p.up2 k).size ≤ 30000 := by
 have h1 := fold_size (l := p.trigs.take k) (w := p.top) (fun t ht => h.each t (List.mem_of_mem_take ht))
 have h2 := top_size h
 have h3 := h.few
 rw [List.length_take] at h1
 unfold Pln.up2
 have : min k p.trigs.length ≤ 5 := by omega
 omega
open Go.RowKit
structure PnS (w0 W : World) (g : Nat) (cs : Array Value) (A : Option Addr) (cap : Nat) (ts : List Trg) : Prop where
 at_ : G.At W g 101 cs
 tab : PowTab W
 row : G.ListIn W 17 Trg.enc (.slice A ts.length cap) ts
 below : Below w0.heap.size w0 W
section
variable {w0 W W' : World} {g : Nat} {cs : Array Value} {A : Option Addr} {cap : Nat} {ts : List Trg}
theorem PnS.next (h : PnS w0 W g cs A cap ts) (hb : Below W.heap.size W W') : PnS w0 W' g cs A cap ts :=
 ⟨h.at_.below hb h.at_.inside, h.tab.below hb, h.row.below hb (Nat.le_refl _), h.below.trans (hb.mono h.below.size)⟩
theorem PnS.alloc (h : PnS w0 W g cs A cap ts) (o : Obj) : PnS w0 (W.alloc o) g cs A cap ts := h.next ((Below.refl _ _).alloc (Nat.le_refl _) o)
theorem PnS.drew (h : PnS w0 W g cs A cap ts) : PnS w0 W.drew g cs A cap ts := ⟨h.at_.drew, h.tab, h.row, h.below.drew⟩
end
theorem at_made' (w : World) (t : TypeId) (cs : Array Value) (n : Nat) (hn : n = w.heap.size) : G.At (w.alloc (.cells cs t)) n t cs := hn ▸ G.At.made w t cs
def PrnPost (p : Pln) (w : World) (e : Ending) (w' : World) : Prop := e = .returned (.tuple #[.string (if planE p = 0 then p.text else ⟨#[]⟩), .int .i64 (planE p)]) ∧ Below w.heap.size w w'
structure RowF (t word : ByteArray) (a b c d : Int) : Prop where
 hi : ∀ x ∈ [a, b, c, d], IntW x
 hw : word.size ≤ 1000
 e : t = G.lineB word [a, b, c, d]
structure DuoF (t word : ByteArray) (a b : Int) : Prop where
 hi : ∀ x ∈ [a, b], IntW x
 hw : word.size ≤ 1000
 e : t = G.lineB word [a, b]
theorem line4 {w0 W : World} {g : Nat} {cs : Array Value} {A : Option Addr} {cap : Nat} {ts : List Trg} (t word : ByteArray) (a b c d : Int) {k : Nat} (hb : G.At W k 3 #[.int .i64 a, .int .i64 b, .int .i64 c, .int .i64 d]) (hs : PnS w0 W g cs A cap ts) (hr : RowF t word a b c d) : Calls Tryz.prog 83 #[.string word, .slice (some ⟨k, 0, none⟩) 4 4] W fun e w' => e = .returned (.string t) ∧ Below W.heap.size W w' ∧ PnS w0 w' g cs A cap ts := by
 rw [hr.e]; exact (planLine word [a, b, c, d] 4 rfl (by decide) hr.hi hr.hw k 4 W hb hs.tab).mono fun _ w' ⟨he, hb⟩ => ⟨he, hb, hs.next hb⟩
theorem line2 {w0 W : World} {g : Nat} {cs : Array Value} {A : Option Addr} {cap : Nat} {ts : List Trg} (t word : ByteArray) (a b : Int) {k : Nat} (hb : G.At W k 3 #[.int .i64 a, .int .i64 b]) (hs : PnS w0 W g cs A cap ts) (hr : DuoF t word a b) : Calls Tryz.prog 83 #[.string word, .slice (some ⟨k, 0, none⟩) 2 2] W fun e w' => e = .returned (.string t) ∧ Below W.heap.size W w' ∧ PnS w0 w' g cs A cap ts := by
 rw [hr.e]; exact (planLine word [a, b] 2 rfl (by decide) hr.hi hr.hw k 2 W hb hs.tab).mono fun _ w' ⟨he, hb⟩ => ⟨he, hb, hs.next hb⟩
theorem sayItoa {w0 W : World} {g : Nat} {cs : Array Value} {A : Option Addr} {cap : Nat} {ts : List Trg} (n : Int) (hn : IntW n) (hs : PnS w0 W g cs A cap ts) : Calls Tryz.prog 26 #[.int .i64 n] W fun e w' => e = .returned (.string (G.itoB n)) ∧ Below W.heap.size W w' ∧ PnS w0 w' g cs A cap ts :=
 (itoaAny n hn W hs.tab).mono fun _ w' ⟨he, hb⟩ => ⟨he, hb, hs.next hb⟩
end Go.Proofs.YtoidcbpcnikejaaGreatDoor
