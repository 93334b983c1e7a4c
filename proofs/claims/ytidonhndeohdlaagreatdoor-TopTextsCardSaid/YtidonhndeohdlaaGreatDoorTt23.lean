/- Of the texts PrtP, PtxM, BakC: what this claim reaches. -/
import Derived.Test.YtidonhndeohdlaaGreatDoorTtPrtC
import Derived.Test.YtidonhndeohdlaaGreatDoorTtCrnP
import Derived.Test.YtidonhndeohdlaaGreatDoorTtCronK
import Derived.Test.YtidonhndeohdlaaGreatDoorTt13
import Derived.Test.YtidonhndeohdlaaGreatDoorTt11
import Derived.Test.YtidonhndeohdlaaGreatDoorTt14
set_option linter.unusedVariables false
set_option linter.unusedSimpArgs false
namespace Go.Proofs.YtidonhndeohdlaaGreatDoor
open Go.RowKit
def Cr.set (c : Cr) : Nat → Nat
  | 0 => c.mi
  | 1 => c.h
  | 2 => c.d
  | 3 => c.mo
  | _ => c.wk
def Cr.anyAt (c : Cr) : Nat → Bool
  | 2 => c.ad
  | 4 => c.aw
  | _ => true
theorem Cr.set_fits {c : Cr} (h : c.fits) (k : Nat) : Word (c.set k) := by
  obtain ⟨h0, h1, h2, h3, h4⟩ := h
  unfold Cr.set Word
  split <;> assumption
theorem Cr.set_cell (c : Cr) (k : Nat) (hk : k < 5) : c.cells[k]? = some (.int .u64 (c.set k : Int)) := by
  match k, hk with
  | 0, _ => rfl
  | 1, _ => rfl
  | 2, _ => rfl
  | 3, _ => rfl
  | 4, _ => rfl
theorem Cr.any_none (c : Cr) (k : Nat) (hk : k < 5) : anK k = none → c.anyAt k = true := by
  match k, hk with
  | 0, _ => intro _; rfl
  | 1, _ => intro _; rfl
  | 2, _ => intro h; cases h
  | 3, _ => intro _; rfl
  | 4, _ => intro h; cases h
theorem Cr.any_some (c : Cr) (k : Nat) (hk : k < 5) : ∀ j, anK k = some j → c.cells[j]? = some (.bool (c.anyAt k)) := by
  match k, hk with
  | 0, _ => intro j h; cases h
  | 1, _ => intro j h; cases h
  | 2, _ => intro j h; cases h; rfl
  | 3, _ => intro j h; cases h
  | 4, _ => intro j h; cases h; rfl
def Cr.txt (c : Cr) (k : Nat) : ByteArray := Tide.fieldTxt (c.set k) (Tide.lim k).1 (Tide.lim k).2 (c.anyAt k)
def Cr.txts (c : Cr) (k : Nat) : List ByteArray := (List.range k).map c.txt
def Cr.text (c : Cr) : ByteArray := Tide.joinB 32 (c.txts 5)
theorem Cr.txts_len (c : Cr) (k : Nat) : (c.txts k).length = k := by unfold Cr.txts; rw [List.length_map, List.length_range]
theorem Cr.txts_next (c : Cr) (k : Nat) : c.txts (k + 1) = c.txts k ++ [c.txt k] := by unfold Cr.txts; rw [List.range_succ, List.map_append]; rfl
theorem Cr.txts_size (c : Cr) (k : Nat) : ∀ x ∈ c.txts k, x.size ≤ 400 := by
  intro x hx
  obtain ⟨i, _, rfl⟩ := List.mem_map.1 hx
  exact Tide.fieldTxt_size _ _ _ _ (Tide.lim_le i).2
structure PrRun (c : Cr) (w wr : World) (h g k : Nat) (x : Value) : Prop where
  below : Below w.heap.size w wr
  tab : Tide.At wr h 108 (fieldCells g)
  row : Tide.At wr g 61 c.cells
  parts : Tide.OwnRow (fun b => w.heap.size ≤ b) wr 9 1 x k ((c.txts k).map Value.string)
theorem PrRun.next {c : Cr} {w wr w' : World} {h g k : Nat} {x : Value} (H : PrRun c w wr h g k x) (hb : Below wr.heap.size wr w') : PrRun c w w' h g k x :=
  ⟨H.below.trans (hb.mono H.below.size), H.tab.below hb H.tab.inside, H.row.below hb H.row.inside, H.parts.below hb (Nat.le_refl _)⟩
theorem PrRun.app {c : Cr} {w wr w5 : World} {h g k : Nat} {A : Option Addr} {cap b2 cap2 : Nat} (H : PrRun c w wr h g k (.slice A k cap))
    (hown : w5.ownsRow 0 9 1 (.slice (some ⟨b2, 0, none⟩) (k + 1) cap2) (k + 1) ((c.txts k).map Value.string ++ [.string (c.txt k)]))
    (hg : (wr.alloc (.cells #[.string (c.txt k)] 9)).grownBy w5 (Value.slice A k cap).ownBlock)
    (ho : (Value.slice A k cap).ownBlock = some b2 ∨ b2 = wr.heap.size + 1) (hlt2 : b2 < w5.heap.size) :
    PrRun c w w5 h g (k + 1) (.slice (some ⟨b2, 0, none⟩) (k + 1) cap2) := by
  have HS := H.next ((Below.refl _ _).alloc (Nat.le_refl _) (.cells #[.string (c.txt k)] 9))
  have a1 := HS.parts.apartAt HS.row (by decide)
  have a2 := HS.parts.apartAt HS.tab (by decide)
  obtain ⟨r1, r2⟩ := HS.parts.app hown hg (ho.imp id (fun e => e.trans (by simp))) hlt2
  refine ⟨HS.below.trans (r2.below HS.below.size (fun b hb h => by omega)), HS.tab.grown hg (fun e => a2 _ e rfl), HS.row.grown hg (fun e => a1 _ e rfl), ?_⟩
  rw [c.txts_next, List.map_append]
  exact r1.mono (fun b _ hb => by
    have := HS.below.size
    rcases hb with hb | hb
    · exact hb
    · omega)
def PrintPost (c : Cr) (w : World) (e : Ending) (w' : World) : Prop := e = .returned (.tuple #[.string (if c.err = 0 then c.text else ⟨#[]⟩), .int .i64 c.err]) ∧ Below w.heap.size w w'
set_option maxRecDepth 100000 in
set_option maxHeartbeats 3200000 in
theorem cronPrint (c : Cr) (hf : c.fits) (w : World) : Calls Tryz.prog 19 #[.agg c.cells] w (PrintPost c w) := by
  have hB := Tide.At.made w 61 c.cells
  have hb := (Below.refl w.heap.size w).alloc (Nat.le_refl _) (.cells c.cells 61)
  have HB := Lib.hid hB; have HBl := Lib.hid hb
  have HF := Lib.hid hf
  obtain ⟨it, hit, hz0, hz1, hz2⟩ := info_split info_text
  clear hB hb hf
  go_enter Tryz.func19, Tryz.ntmps19
  go_upto_region 1 with fail
  generalize w.alloc (.cells c.cells 61) = W at HB HBl ⊢
  have x0 := HB.out.here (i := 0) (c.set_cell 0 (by decide)); have x1 := HB.out.here (i := 1) (c.set_cell 1 (by decide)); have x2 := HB.out.here (i := 2) (c.set_cell 2 (by decide)); have x3 := HB.out.here (i := 3) (c.set_cell 3 (by decide)); have x4 := HB.out.here (i := 4) (c.set_cell 4 (by decide))
  have x5 : W.cell? ⟨w.heap.size, 5, none⟩ = some (.bool c.ad) := HB.out.here rfl
  have x6 : W.cell? ⟨w.heap.size, 6, none⟩ = some (.bool c.aw) := HB.out.here rfl
  go_wp2_with fail
  refine (cronCheck c HF.out _).mono ?_
  rintro e w1 ⟨rfl, hb1⟩
  have HBl1 := Lib.hid (HBl.out.trans (hb1.mono HBl.out.size))
  have HB1 := Lib.hid (HB.out.below hb1 HB.out.inside)
  clear x0 x1 x2 x3 x4 x5 x6 hb1 HB HBl
  by_cases he : c.err = 0
  · have HQ := Lib.hid (fun w' (hb : Below w.heap.size w w') => (show PrintPost c w (.returned (.tuple #[.string c.text, .int .i64 0])) w' from ⟨by rw [if_pos he, he], hb⟩))
    rw [he]
    clear he
    go_wp2_with fail
    refine (cronFields w.heap.size _ c.cells HB1.out rfl).mono ?_
    rintro e w3 ⟨h, rfl, hh, ha, hb3⟩
    have HP := Lib.hid (show PrRun c w w3 h w.heap.size 0 (.slice none 0 0) from ⟨HBl1.out.trans (hb3.mono HBl1.out.size), ha, HB1.out.below hb3 HB1.out.inside, Tide.OwnRow.nil _ _ _ _⟩)
    clear hh ha hb3 HB1 HBl1
    generalize w.heap.size = g at HP ⊢
    go_wp2_with fail
    go_loopw [5, 15] (fun x y wr => ∃ k : Nat, k ≤ 5 ∧ y = .int .i64 k ∧ Hid (PrRun c w wr h g k x)) (fun _ y _ => 5 - (intOf y).toNat)
    case atStart => exact ⟨0, by omega, rfl, HP⟩
    case round =>
      clear HP
      obtain ⟨k, hk, rfl, HP⟩ := hrel
      have i0 : (0 : Int) ≤ (k : Int) := by omega
      obtain ⟨A, cap, rfl, hcA, hcB, _⟩ := HP.out.parts.slice
      by_cases hlt : k < 5
      · have i1 : (k : Int) < 5 := by omega
        have htx := fun W hA => cronText k g (c.set k) (anK k) (c.anyAt k) c.cells W hA (Cr.set_fits HF.out k) (c.set_cell k hlt) (c.any_none k hlt) (c.any_some k hlt)
        unfold fieldV at htx
        obtain ⟨t0, t1, t2, t3⟩ := fields_at HP.out.tab k hlt
        obtain ⟨P, hP⟩ : ∃ P, anyV g (anK k) = .pointer P := by cases anK k <;> exact ⟨_, rfl⟩
        rw [hP] at t3 htx
        have HTx := Lib.hid htx
        have HP1 := Lib.hid (HP.out.next ((Below.refl _ _).alloc (Nat.le_refl _) (.cells #[.pointer (some ⟨g, k, none⟩), .int .i64 ((Tide.lim k).1 : Nat), .int .i64 ((Tide.lim k).2 : Nat), .pointer P] 108)))
        have hB := Tide.At.made wr 108 #[.pointer (some ⟨g, k, none⟩), .int .i64 ((Tide.lim k).1 : Nat), .int .i64 ((Tide.lim k).2 : Nat), .pointer P]
        have HLt := Lib.hid hlt
        clear htx hP HP hlt
        go_upto_region 8 with fail
        have x0 := hB.here (i := 0) rfl; have x1 := hB.here (i := 1) rfl; have x2 := hB.here (i := 2) rfl; have x3 := hB.here (i := 3) rfl
        clear hB t0 t1 t2 t3
        go_wp2_with fail
        refine (HTx.out _ HP1.out.row).mono ?_
        rintro e w4 ⟨rfl, hb4⟩
        rw [show Tide.fieldTxt (c.set k) (Tide.lim k).1 (Tide.lim k).2 (c.anyAt k) = c.txt k from rfl]
        have HP4 := Lib.hid (HP1.out.next hb4)
        have HOx := Lib.hid (HP4.out.parts.alloc (.cells #[.string (c.txt k)] 9))
        have HM3 := Lib.hid (show k + 1 ≤ maxLen by simp only [maxLen]; omega)
        have HM4 := Lib.hid (show (k + 1) * 16 ≤ 140737488355328 by omega)
        clear HP1 HTx hb4 x0 x1 x2 x3
        go_wp2_with (at_builtin; go_loud (refine wpList_append_lies _ (by rfl) (.tmp 19) (.tmp 22) 101 (by rfl) 0 9 it (.string ByteArray.empty) 1 16 Tryz.underlying101 hit hz0 hz1 hz2 rfl (by decide) (.slice A k cap) _ _ rfl HOx.out.owns ⟨w4.heap.size, 0, none⟩ 1 1 [.string (c.txt k)] rfl rfl (Tide.new_one rfl) (by simp [Value.oneCell']) (by decide) HM3.out HM4.out (Nat.zero_le _) _ rfl ?_))
        intro b2 cap2 w5 hown hg ho hlt2
        have HN := Lib.hid (HP4.out.app hown hg ho hlt2)
        clear hown hg ho hlt2 HOx HP4
        go_wp2_with fail
        go_roundw
        case rel => exact ⟨k + 1, HLt.out, by go_num, HN⟩
        case measure => have := HLt.out; simp [intOf]; omega
      · have hke : k = 5 := by omega
        subst hke
        have i1 : (5 : Int) ≤ ((5 : Nat) : Int) := by omega
        have hsz := Tide.joinB_size 32 (k := 400) (c.txts_size 5)
        rw [c.txts_len 5] at hsz
        have HSz := Lib.hid (show (Lib.join ((c.txts 5).map (·.data.toList)) [32]).length ≤ 140737488355328 by
          have e := Tide.ba_size (Tide.joinB 32 (c.txts 5))
          have e2 : (Tide.joinB 32 (c.txts 5)).data.toList = Lib.join ((c.txts 5).map (·.data.toList)) [32] := rfl
          rw [e2] at e
          omega)
        obtain ⟨b, cap', e, _, _, _, hr⟩ := HP.out.parts.form (by decide)
        cases e
        have hl5 := c.txts_len 5
        have hj := Tryz.strings_Join b 0 cap (c.txts 5) ⟨#[32]⟩ wr (fun j x hx => by rw [Nat.zero_add]; exact hr.cell (by rw [List.getElem?_map, hx]; rfl)) hr.inside (by omega) (by omega) HSz.out
        rw [hl5] at hj
        have HJ := Lib.hid hj
        have HBx := Lib.hid HP.out.below
        clear hr hj HP hsz hl5 hlt
        go_wp2_with fail
        refine HJ.out.mono ?_
        rintro e w4 ⟨rfl, hb4⟩
        have HR := Lib.hid (HQ.out w4 (HBx.out.trans (hb4.mono HBx.out.size)))
        clear hb4
        go_wp2_with fail
        go_ret2
        exact HR.out
  · have HQ := Lib.hid (show PrintPost c w (.returned (.tuple #[.string ⟨#[]⟩, .int .i64 c.err])) w1 from ⟨by rw [if_neg he], HBl1.out⟩)
    go_wp2_with fail
    go_ret2
    exact HQ.out
open Go.RowKit
def spanTxt (n : Int) (a b : ByteArray) : ByteArray := (((((⟨#[115, 112, 97, 110, 32]⟩ : ByteArray) ++ Tide.itoB n ++ ⟨#[32]⟩) ++ a) ++ ⟨#[32, 47, 32]⟩) ++ b) ++ ⟨#[10]⟩
def Trg.text (t : Trg) : ByteArray :=
  if t.kind = 1 then Tide.lineB ⟨#[108, 97, 103]⟩ [t.target, t.act]
  else if t.kind = 2 then Tide.lineB ⟨#[100, 101, 112, 116, 104]⟩ [t.target, t.act]
  else spanTxt t.target t.a.text t.b.text
def Pln.row0 (p : Pln) : ByteArray := Tide.lineB ((⟨#[112, 108, 97, 110, 32]⟩ : ByteArray) ++ p.name) [p.mn, p.mx, p.poll, p.cool]
def Pln.row1 (p : Pln) : ByteArray := Tide.lineB ⟨#[114, 101, 115, 116]⟩ [p.tol, p.back, p.after, p.shift]
def Pln.row2 (p : Pln) : ByteArray := Tide.lineB ⟨#[117, 112]⟩ [p.up.win, p.up.pods, p.up.pct, p.up.per]
def Pln.row3 (p : Pln) : ByteArray := Tide.lineB ⟨#[100, 111, 119, 110]⟩ [p.down.win, p.down.pods, p.down.pct, p.down.per]
def Pln.top (p : Pln) : ByteArray := ((p.row0 ++ p.row1) ++ p.row2) ++ p.row3
def Pln.up2 (p : Pln) (k : Nat) : ByteArray := (p.trigs.take k).foldl (fun a t => a ++ t.text) p.top
def Pln.text (p : Pln) : ByteArray := p.trigs.foldl (fun a t => a ++ t.text) p.top
theorem Pln.up2_next {p : Pln} {k : Nat} {t : Trg} (h : p.trigs[k]? = some t) : p.up2 (k + 1) = p.up2 k ++ t.text := by
  unfold Pln.up2
  rw [List.take_add_one, h, List.foldl_append]; rfl
theorem Pln.up2_all {p : Pln} : p.up2 p.trigs.length = p.text := by unfold Pln.up2 Pln.text; rw [List.take_length]
structure Pln.fine (p : Pln) : Prop where
  name : p.name.size ≤ 16
  i0 : ∀ x ∈ [p.mn, p.mx, p.poll, p.cool], IntW x
  i1 : ∀ x ∈ [p.tol, p.back, p.after, p.shift], IntW x
  i2 : ∀ x ∈ [p.up.win, p.up.pods, p.up.pct, p.up.per], IntW x
  i3 : ∀ x ∈ [p.down.win, p.down.pods, p.down.pct, p.down.per], IntW x
  few : p.trigs.length ≤ 5
  each : ∀ t ∈ p.trigs, trigE t = 0
theorem four_in {a b c d lo hi : Int} {P : Int → Prop} (ha : P a) (hb : P b) (hc : P c) (hd : P d) : ∀ x ∈ [a, b, c, d], P x := by
  intro x hx
  simp only [List.mem_cons, List.not_mem_nil, or_false] at hx
  rcases hx with rfl | rfl | rfl | rfl <;> assumption
theorem IntW.of {n lo hi : Int} (h : wiB n lo hi = true) (h0 : -9223372036854775808 ≤ lo) (h1 : hi ≤ 9223372036854775807) : IntW n := by
  rw [wiB_iff] at h
  exact ⟨by omega, by omega⟩
theorem planE_fine {p : Pln} (h : planE p = 0) : p.fine := by
  unfold planE at h
  split at h
  · cases h
  · split at h
    · cases h
    · split at h
      · cases h
      · rename_i h1 h2 h3
        have h1' : nameOk p.name = true := by simpa using h1
        have h3' : p.nums = true := by simpa using h3
        unfold nameOk at h1'
        unfold Pln.nums paceOk at h3'
        simp only [Bool.and_eq_true] at h1' h3'
        obtain ⟨a, b, c, d, e, f, g, i, ⟨u1, u2, u3, u4⟩, ⟨d1, d2, d3, d4⟩⟩ := h3'
        have hn := wiB_iff.1 h1'.2
        have hb : IntW p.mx := by have := wiB_iff.1 b; exact ⟨by omega, by omega⟩
        refine ⟨by omega, ?_, ?_, ?_, ?_, by omega, trigsE_mem h⟩
        · exact four_in (lo := 0) (hi := 0) (.of a (by decide) (by decide)) hb (.of c (by decide) (by decide)) (.of d (by decide) (by decide))
        · exact four_in (lo := 0) (hi := 0) (.of e (by decide) (by decide)) (.of f (by decide) (by decide)) (.of g (by decide) (by decide)) (.of i (by decide) (by decide))
        · exact four_in (lo := 0) (hi := 0) (.of u1 (by decide) (by decide)) (.of u2 (by decide) (by decide)) (.of u3 (by decide) (by decide)) (.of u4 (by decide) (by decide))
        · exact four_in (lo := 0) (hi := 0) (.of d1 (by decide) (by decide)) (.of d2 (by decide) (by decide)) (.of d3 (by decide) (by decide)) (.of d4 (by decide) (by decide))
theorem trigE_cases {t : Trg} (h : trigE t = 0) : ((t.kind = 1 ∨ t.kind = 2) ∧ IntW t.target ∧ IntW t.act) ∨ (t.kind = 3 ∧ IntW t.target ∧ t.a.err = 0 ∧ t.b.err = 0) := by
  unfold trigE at h
  split at h
  · rename_i hk
    split at h
    · rename_i h1
      simp only [Bool.and_eq_true] at h1
      exact .inl ⟨hk, .of h1.1 (by decide) (by decide), .of h1.2.1 (by decide) (by decide)⟩
    · cases h
  · split at h
    · rename_i hk
      split at h
      · rename_i h1
        simp only [Bool.and_eq_true] at h1
        refine .inr ⟨hk, .of h1.1 (by decide) (by decide), ?_⟩
        unfold spanE at h
        unfold Cr.err at h ⊢
        revert h
        cases t.a.ok <;> cases t.b.ok <;> simp
      · cases h
    · cases h
theorem Cr.text_size (c : Cr) : c.text.size ≤ 2005 := by
  have h := Tide.joinB_size 32 (c.txts_size 5)
  rw [c.txts_len] at h
  exact h
theorem spanTxt_size {n : Int} (hn : IntW n) {a b : ByteArray} (ha : a.size ≤ 2005) (hb : b.size ≤ 2005) : (spanTxt n a b).size ≤ 4050 := by
  have h1 := Tide.itoB_size hn
  have e1 : (⟨#[115, 112, 97, 110, 32]⟩ : ByteArray).size = 5 := rfl
  have e2 : (⟨#[32]⟩ : ByteArray).size = 1 := rfl
  have e3 : (⟨#[32, 47, 32]⟩ : ByteArray).size = 3 := rfl
  have e4 : (⟨#[10]⟩ : ByteArray).size = 1 := rfl
  unfold spanTxt
  simp only [ByteArray.size_append]
  omega
theorem two_in {a b : Int} {P : Int → Prop} (ha : P a) (hb : P b) : ∀ x ∈ [a, b], P x := by
  intro x hx
  simp only [List.mem_cons, List.not_mem_nil, or_false] at hx
  rcases hx with rfl | rfl <;> assumption
theorem Trg.text_size {t : Trg} (h : trigE t = 0) : t.text.size ≤ 4050 := by
  unfold Trg.text
  rcases trigE_cases h with ⟨hk, h1, h2⟩ | ⟨hk, h1, _⟩
  · have l1 := Tide.lineB_size (w := ⟨#[108, 97, 103]⟩) (two_in h1 h2)
    have l2 := Tide.lineB_size (w := ⟨#[100, 101, 112, 116, 104]⟩) (two_in h1 h2)
    have e1 : (⟨#[108, 97, 103]⟩ : ByteArray).size = 3 := rfl
    have e2 : (⟨#[100, 101, 112, 116, 104]⟩ : ByteArray).size = 5 := rfl
    have e3 : [t.target, t.act].length = 2 := rfl
    split
    · omega
    · rw [if_pos (by omega)]; omega
  · rw [if_neg (by omega), if_neg (by omega)]
    exact spanTxt_size h1 t.a.text_size t.b.text_size
theorem row_size {w : ByteArray} {a b c d : Int} (h : ∀ x ∈ [a, b, c, d], IntW x) (hw : w.size ≤ 21) : (Tide.lineB w [a, b, c, d]).size ≤ 110 := by
  have := Tide.lineB_size (w := w) h
  have e3 : [a, b, c, d].length = 4 := rfl
  omega
theorem Pln.word_size {p : Pln} (h : p.fine) : ((⟨#[112, 108, 97, 110, 32]⟩ : ByteArray) ++ p.name).size ≤ 21 := by
  rw [ByteArray.size_append]
  have e1 : (⟨#[112, 108, 97, 110, 32]⟩ : ByteArray).size = 5 := rfl
  have := h.name
  omega
theorem Pln.row0_size {p : Pln} (h : p.fine) : p.row0.size ≤ 110 := row_size h.i0 (Pln.word_size h)
theorem Pln.row1_size {p : Pln} (h : p.fine) : p.row1.size ≤ 110 := row_size h.i1 (by decide)
theorem Pln.row2_size {p : Pln} (h : p.fine) : p.row2.size ≤ 110 := row_size h.i2 (by decide)
theorem Pln.row3_size {p : Pln} (h : p.fine) : p.row3.size ≤ 110 := row_size h.i3 (by decide)
theorem Pln.top_size {p : Pln} (h : p.fine) : p.top.size ≤ 440 := by
  have := row0_size h; have := row1_size h; have := row2_size h; have := row3_size h
  unfold Pln.top
  simp only [ByteArray.size_append]
  omega
theorem fold_size {l : List Trg} {w : ByteArray} (h : ∀ t ∈ l, trigE t = 0) : (l.foldl (fun a t => a ++ t.text) w).size ≤ w.size + 4050 * l.length := by
  induction l generalizing w with
  | nil => exact Nat.le_refl _
  | cons t l ih =>
    have h1 := ih (w := w ++ t.text) (fun x hx => h x (List.mem_cons_of_mem _ hx))
    have h2 := Trg.text_size (h t (by simp))
    rw [ByteArray.size_append] at h1
    show (l.foldl (fun a t => a ++ t.text) (w ++ t.text)).size ≤ _
    rw [List.length_cons]
    omega
theorem Pln.up2_size {p : Pln} (h : p.fine) (k : Nat) : (p.up2 k).size ≤ 30000 := by
  have h1 := fold_size (l := p.trigs.take k) (w := p.top) (fun t ht => h.each t (List.mem_of_mem_take ht))
  have h2 := top_size h
  have h3 := h.few
  rw [List.length_take] at h1
  unfold Pln.up2
  have : min k p.trigs.length ≤ 5 := by omega
  omega
end Go.Proofs.YtidonhndeohdlaaGreatDoor
namespace Tide
open Go
def sumB (l : List ByteArray) : Nat := (l.map (fun x => x.size + 1)).sum
theorem tail_length (c : UInt8) : ∀ l : List ByteArray, (Lib.joinTail [c] (l.map (·.data.toList))).length = sumB l
  | [] => rfl
  | x :: l => by
    have ih := tail_length c l
    unfold Lib.joinTail sumB at ih ⊢
    simp only [List.map_cons, List.flatten_cons, List.length_append, List.sum_cons, List.length_cons, List.length_nil, Nat.zero_add] at ih ⊢
    rw [ih, ba_size]
    omega
theorem joinB_sum (c : UInt8) {l : List ByteArray} (h : l ≠ []) : (joinB c l).size + 1 = sumB l := by
  cases l with
  | nil => exact absurd rfl h
  | cons x l =>
    rw [ba_size]
    show (Lib.join (x.data.toList :: l.map (·.data.toList)) [c]).length + 1 = _
    rw [Lib.join_cons, List.length_append, tail_length]
    unfold sumB
    rw [List.map_cons, List.sum_cons, ba_size x]
    omega
theorem sumB_snoc (l : List ByteArray) (x : ByteArray) : sumB (l ++ [x]) = sumB l + (x.size + 1) := by
  unfold sumB; rw [List.map_append, List.sum_append]; simp
theorem runs_sum {s lo hi : Nat} (h : FieldIn s lo hi) : ∀ v, v ≤ hi + 1 → ∃ m, sumB (txtsUp s lo hi v) ≤ 2 * m ∧ lo + m ≤ hi + 2 ∧ ∀ u, v ≤ u → lo ≤ u → begins s lo u = true → lo + m ≤ u
  | 0, _ => ⟨0, Nat.le_refl _, by have := h.le; omega, fun u _ hu _ => hu⟩
  | v + 1, hv => by
    obtain ⟨m, h1, h2, h3⟩ := runs_sum h v (by omega)
    by_cases hb : lo ≤ v ∧ begins s lo v = true
    · rw [txtsUp_yes hb.1 hb.2, sumB_snoc]
      have h4 := h3 v (Nat.le_refl _) hb.1 hb.2
      obtain ⟨r1, r2, r3⟩ := runEnd_le s hi 64 v (by omega)
      have hlt := h.lt
      refine ⟨runEnd s hi 64 v + 2 - lo, ?_, by omega, fun u hu1 hu2 hu3 => ?_⟩
      · by_cases he : runEnd s hi 64 v = v
        · rw [he, runTxt_one]
          have := decB_size (show v < 100 by omega)
          omega
        · have := runTxt_size (a := v) (b := runEnd s hi 64 v) (by omega) (by omega)
          omega
      · have hbit : s.testBit u = true := by unfold begins at hu3; rw [Bool.and_eq_true] at hu3; exact hu3.1
        have hprev : u = lo ∨ s.testBit (u - 1) = false := by
          unfold begins at hu3
          rw [Bool.and_eq_true, Bool.or_eq_true, decide_eq_true_eq] at hu3
          rcases hu3.2 with q | q
          · exact .inl q
          · exact .inr (by simpa using q)
        have hu4 := (h.bits u hbit).2
        have hne : ¬ u ≤ runEnd s hi 64 v := fun hle => by
          rcases hprev with q | q
          · omega
          · by_cases hq : u - 1 = v
            · have hv1 : s.testBit v = true := by have := hb.2; unfold begins at this; rw [Bool.and_eq_true] at this; exact this.1
              rw [hq, hv1] at q; cases q
            · rw [r3 (u - 1) (by omega) (by omega)] at q; cases q
        have hne2 : u ≠ runEnd s hi 64 v + 1 := fun e => by
          have := runEnd_max s hi 64 v (by omega) (by omega) (by omega)
          rw [← e, hbit] at this; cases this
        omega
    · rw [txtsUp_no (by
        by_cases q : lo ≤ v
        · cases hbb : begins s lo v with
          | true => exact absurd ⟨q, hbb⟩ hb
          | false => simp
        · rw [decide_eq_false q]; rfl)]
      exact ⟨m, h1, h2, fun u a b c => h3 u (by omega) b c⟩
theorem join_not {c b : UInt8} (hbc : b ≠ c) {l : List ByteArray} (h : ∀ x ∈ l, b ∉ x.data.toList) : b ∉ (joinB c l).data.toList := by
  cases l with
  | nil => simp [joinB_nil]
  | cons x l =>
    show b ∉ Lib.join (x.data.toList :: l.map (·.data.toList)) [c]
    rw [Lib.join_cons, List.mem_append]
    rintro (q | q)
    · exact h x (by simp) q
    · unfold Lib.joinTail at q
      rw [List.mem_flatten] at q
      obtain ⟨y, hy, hb⟩ := q
      rw [List.mem_map] at hy
      obtain ⟨z, hz, rfl⟩ := hy
      obtain ⟨t, ht, rfl⟩ := List.mem_map.1 hz
      rw [List.mem_append] at hb
      rcases hb with hb | hb
      · simp at hb; exact hbc hb
      · exact h t (List.mem_cons_of_mem _ ht) hb
theorem txts_not {s lo hi : Nat} (hh : hi ≤ 60) {b : UInt8} (hb : digB b = false) (h45 : b ≠ 45) : ∀ x ∈ txtsUp s lo hi (hi + 1), b ∉ x.data.toList := fun x hx => by
  obtain ⟨u, a1, a2, a3, rfl⟩ := txts_mem.1 hx
  have := (runEnd_le s hi 64 u (by omega)).2.1
  exact runTxt_not (by omega) (by omega) hb h45
theorem field_not {s lo hi : Nat} {any : Bool} (hh : hi ≤ 60) : (32 : UInt8) ∉ (fieldTxt s lo hi any).data.toList := by
  unfold fieldTxt
  split
  · simp [star]
  · exact join_not (by decide) (txts_not hh (by decide) (by decide))
theorem field_sum {s lo hi : Nat} {any : Bool} (h : FieldIn s lo hi) : (fieldTxt s lo hi any).size + 1 ≤ 2 * (hi + 2 - lo) := by
  unfold fieldTxt
  have := h.le
  split
  · show 1 + 1 ≤ _; omega
  · obtain ⟨m, h1, h2, _⟩ := runs_sum h (hi + 1) (Nat.le_refl _)
    rw [joinB_sum 44 (txts_ne h)]
    omega
theorem join_star {s lo hi : Nat} (h : FieldIn s lo hi) : joinB 44 (txtsUp s lo hi (hi + 1)) ≠ star := fun e => by
  have h1 := join_pieces h
  rw [e, star_pieces] at h1
  have : (42 : UInt8) ∉ star.data.toList := txts_not (s := s) (lo := lo) h.lt (by decide) (by decide) star (by rw [← h1]; simp)
  exact this (by simp [star])
theorem any_star {ps : List ByteArray} {k : Nat} : isAny ps k = true ↔ pieceAt ps k = star := by
  unfold isAny
  rw [beq_iff_eq, Lib.toList_data]
  constructor
  · intro e; exact ba_ext e
  · intro e; rw [e]; rfl
end Tide
namespace Go.Proofs.YtidonhndeohdlaaGreatDoor
open Go.RowKit
theorem ok_in {c : Cr} (hf : c.fits) (h : c.ok = true) (k : Nat) (hk : k < 5) : Tide.FieldIn (c.set k) (Tide.lim k).1 (Tide.lim k).2 ∧ (∀ j, anK k = some j → c.anyAt k = true → c.set k = Tide.allN (Tide.lim k).1 (Tide.lim k).2) := by
  have h1 := Cr.ok_at h k hk
  have hl := Tide.lim_le k
  obtain ⟨b, hb, hba⟩ : ∃ b, c.okAt k = Tide.okField (c.set k) (Tide.lim k).1 (Tide.lim k).2 b ∧ (∀ j, anK k = some j → b = c.anyAt k) := by
    match k, hk with
    | 0, _ => exact ⟨_, rfl, fun j h => by cases h⟩
    | 1, _ => exact ⟨_, rfl, fun j h => by cases h⟩
    | 2, _ => exact ⟨_, rfl, fun j h => rfl⟩
    | 3, _ => exact ⟨_, rfl, fun j h => by cases h⟩
    | 4, _ => exact ⟨_, rfl, fun j h => rfl⟩
  rw [hb, Tide.okField_iff (c.set k) (c.set_fits hf k) _ _ hl.1 (by omega)] at h1
  refine ⟨⟨h1.1, h1.2.1, hl.1, hl.2⟩, fun j hj ha => ?_⟩
  rw [← hba j hj] at ha
  apply Nat.eq_of_testBit_eq
  intro n
  rw [Tide.allN_bit _ _ n hl.1]
  by_cases hn : (Tide.lim k).1 ≤ n ∧ n ≤ (Tide.lim k).2
  · rw [h1.2.2 ha n hn.1 hn.2, decide_eq_true hn.1, decide_eq_true hn.2]; rfl
  · cases hbt : (c.set k).testBit n with
    | true => exact absurd (h1.2.1 n hbt) hn
    | false => symm; rw [Bool.and_eq_false_iff, decide_eq_false_iff_not, decide_eq_false_iff_not]; omega
theorem txt_read {c : Cr} (hf : c.fits) (h : c.ok = true) (k : Nat) (hk : k < 5) : Tide.fieldOk (Tide.lim k).1 (Tide.lim k).2 (c.txt k) = true ∧ Tide.fieldN (Tide.lim k).1 (Tide.lim k).2 (c.txt k) = c.set k ∧ (∀ j, anK k = some j → (c.txt k = Tide.star ↔ c.anyAt k = true)) := by
  obtain ⟨h1, h2⟩ := ok_in hf h k hk
  unfold Cr.txt Tide.fieldTxt
  split
  · rename_i hs
    have := Tide.star_field k
    exact ⟨this.1, by rw [this.2, hs.1], fun j hj => ⟨fun _ => hs.2, fun _ => rfl⟩⟩
  · rename_i hs
    have := Tide.join_field h1
    refine ⟨this.1, this.2, fun j hj => ⟨fun e => absurd e (Tide.join_star h1), fun ha => ?_⟩⟩
    exact absurd ⟨h2 j hj ha, ha⟩ hs
theorem text_pieces (c : Cr) : Tide.piecesB 32 c.text = c.txts 5 := by
  refine Tide.piecesB_join (by intro e; have := c.txts_len 5; rw [e] at this; cases this) fun x hx => ?_
  obtain ⟨i, _, rfl⟩ := List.mem_map.1 hx
  exact Tide.field_not (Tide.lim_le i).2
theorem txts_at (c : Cr) (k : Nat) (hk : k < 5) : Tide.pieceAt (c.txts 5) k = c.txt k :=
  Tide.pieceAt_get (by unfold Cr.txts; rw [List.getElem?_map, List.getElem?_range hk]; rfl)
theorem text_small {c : Cr} (hf : c.fits) (h : c.ok = true) : c.text.size ≤ 300 := by
  have e := Tide.joinB_sum 32 (l := c.txts 5) (by intro e; have := c.txts_len 5; rw [e] at this; cases this)
  have f0 := Tide.field_sum (any := c.anyAt 0) (ok_in hf h 0 (by decide)).1
  have f1 := Tide.field_sum (any := c.anyAt 1) (ok_in hf h 1 (by decide)).1
  have f2 := Tide.field_sum (any := c.anyAt 2) (ok_in hf h 2 (by decide)).1
  have f3 := Tide.field_sum (any := c.anyAt 3) (ok_in hf h 3 (by decide)).1
  have f4 := Tide.field_sum (any := c.anyAt 4) (ok_in hf h 4 (by decide)).1
  have es : Tide.sumB (c.txts 5) = (c.txt 0).size + 1 + ((c.txt 1).size + 1 + ((c.txt 2).size + 1 + ((c.txt 3).size + 1 + ((c.txt 4).size + 1)))) := rfl
  have e0 : (c.txt 0).size + 1 ≤ 122 := f0
  have e1 : (c.txt 1).size + 1 ≤ 50 := f1
  have e2 : (c.txt 2).size + 1 ≤ 64 := f2
  have e3 : (c.txt 3).size + 1 ≤ 26 := f3
  have e4 : (c.txt 4).size + 1 ≤ 16 := f4
  have : c.text.size + 1 = Tide.sumB (c.txts 5) := e
  omega
theorem cron_back {c : Cr} (hf : c.fits) (h : c.ok = true) : Tide.cronCode c.text = 0 ∧ cronV c.text = c.cells := by
  have hok : Tide.cronOk c.text = true := Tide.cronOk_good (text_small hf h) (by rw [text_pieces, c.txts_len]) fun k hk => by
    rw [text_pieces]; unfold Tide.fOk; rw [txts_at c k hk]; exact (txt_read hf h k hk).1
  have hM : ∀ k, k < 5 → Tide.fM (c.txts 5) k = c.set k := fun k hk => by unfold Tide.fM; rw [txts_at c k hk]; exact (txt_read hf h k hk).2.1
  have hA : ∀ k j, k < 5 → anK k = some j → Tide.isAny (c.txts 5) k = c.anyAt k := fun k j hk hj => by
    rw [Bool.eq_iff_iff, Tide.any_star, txts_at c k hk]; exact (txt_read hf h k hk).2.2 j hj
  refine ⟨?_, ?_⟩
  · unfold Tide.cronCode
    rw [if_neg (by have := text_small hf h; omega), if_pos hok]
  · unfold cronV
    rw [if_pos hok, text_pieces]
    unfold partV pm pa
    rw [hM 0 (by decide), hM 1 (by decide), hM 2 (by decide), hM 3 (by decide), hM 4 (by decide), hA 2 5 (by decide) rfl, hA 4 6 (by decide) rfl]
    rfl
end Go.Proofs.YtidonhndeohdlaaGreatDoor
