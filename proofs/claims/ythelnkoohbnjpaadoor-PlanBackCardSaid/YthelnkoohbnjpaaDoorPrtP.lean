/- The contract of cron.Print. -/
import Derived.Test.YthelnkoohbnjpaaDoorPrtC
import Derived.Test.YthelnkoohbnjpaaDoorCrnP
import Derived.Test.YthelnkoohbnjpaaDoorZCron
set_option linter.unusedVariables false
set_option linter.unusedSimpArgs false
namespace Go.Proofs.YthelnkoohbnjpaaDoor
open Go.RowKit
set_option linter.unusedVariables false
def Cr.set (c : Cr) : Nat → Nat
  | 0 => c.mi
  | 1 => c.h
  | 2 => c.d
  | 3 => c.mo
  | _ => c.wk
def Cr.anyAt (c : Cr) : Nat → Bool
  | 2 => c.ad
  | 4 => c.aw
  | _ => true
theorem Cr.set_fits {c : Cr} (h : c.fits) (k : Nat) : Word (c.set k) := by
  obtain ⟨h0, h1, h2, h3, h4⟩ := h
  unfold Cr.set Word
  split <;> assumption
theorem Cr.set_cell (c : Cr) (k : Nat) (hk : k < 5) : c.cells[k]? = some (.int .u64 (c.set k : Int)) := by
  match k, hk with
  | 0, _ => rfl
  | 1, _ => rfl
  | 2, _ => rfl
  | 3, _ => rfl
  | 4, _ => rfl
theorem Cr.any_none (c : Cr) (k : Nat) (hk : k < 5) : anK k = none → c.anyAt k = true := by
  match k, hk with
  | 0, _ => intro _; rfl
  | 1, _ => intro _; rfl
  | 2, _ => intro h; cases h
  | 3, _ => intro _; rfl
  | 4, _ => intro h; cases h
theorem Cr.any_some (c : Cr) (k : Nat) (hk : k < 5) : ∀ j, anK k = some j → c.cells[j]? = some (.bool (c.anyAt k)) := by
  match k, hk with
  | 0, _ => intro j h; cases h
  | 1, _ => intro j h; cases h
  | 2, _ => intro j h; cases h; rfl
  | 3, _ => intro j h; cases h
  | 4, _ => intro j h; cases h; rfl
/-- the text of a field of a cron; of the whole -/
def Cr.txt (c : Cr) (k : Nat) : ByteArray := Tide.fieldTxt (c.set k) (Tide.lim k).1 (Tide.lim k).2 (c.anyAt k)
def Cr.txts (c : Cr) (k : Nat) : List ByteArray := (List.range k).map c.txt
def Cr.text (c : Cr) : ByteArray := Tide.joinB 32 (c.txts 5)
theorem Cr.txts_len (c : Cr) (k : Nat) : (c.txts k).length = k := by unfold Cr.txts; rw [List.length_map, List.length_range]
theorem Cr.txts_next (c : Cr) (k : Nat) : c.txts (k + 1) = c.txts k ++ [c.txt k] := by unfold Cr.txts; rw [List.range_succ, List.map_append]; rfl
theorem Cr.txts_size (c : Cr) (k : Nat) : ∀ x ∈ c.txts k, x.size ≤ 400 := by
  intro x hx
  obtain ⟨i, _, rfl⟩ := List.mem_map.1 hx
  exact Tide.fieldTxt_size _ _ _ _ (Tide.lim_le i).2
structure PrRun (c : Cr) (w wr : World) (h g k : Nat) (x : Value) : Prop where
  below : Below w.heap.size w wr
  tab : Tide.At wr h 61 (fieldCells g)
  row : Tide.At wr g 24 c.cells
  parts : Tide.OwnRow (fun b => w.heap.size ≤ b) wr 9 1 x k ((c.txts k).map Value.string)
theorem PrRun.next {c : Cr} {w wr w' : World} {h g k : Nat} {x : Value} (H : PrRun c w wr h g k x) (hb : Below wr.heap.size wr w') : PrRun c w w' h g k x :=
  ⟨H.below.trans (hb.mono H.below.size), H.tab.below hb H.tab.inside, H.row.below hb H.row.inside, H.parts.below hb (Nat.le_refl _)⟩
theorem PrRun.app {c : Cr} {w wr w5 : World} {h g k : Nat} {A : Option Addr} {cap b2 cap2 : Nat} (H : PrRun c w wr h g k (.slice A k cap))
    (hown : w5.ownsRow 0 9 1 (.slice (some ⟨b2, 0, none⟩) (k + 1) cap2) (k + 1) ((c.txts k).map Value.string ++ [.string (c.txt k)]))
    (hg : (wr.alloc (.cells #[.string (c.txt k)] 9)).grownBy w5 (Value.slice A k cap).ownBlock)
    (ho : (Value.slice A k cap).ownBlock = some b2 ∨ b2 = wr.heap.size + 1) (hlt2 : b2 < w5.heap.size) :
    PrRun c w w5 h g (k + 1) (.slice (some ⟨b2, 0, none⟩) (k + 1) cap2) := by
  have HS := H.next ((Below.refl _ _).alloc (Nat.le_refl _) (.cells #[.string (c.txt k)] 9))
  have a1 := HS.parts.apartAt HS.row (by decide)
  have a2 := HS.parts.apartAt HS.tab (by decide)
  obtain ⟨r1, r2⟩ := HS.parts.app hown hg (ho.imp id (fun e => e.trans (by simp))) hlt2
  refine ⟨HS.below.trans (r2.below HS.below.size (fun b hb h => by omega)), HS.tab.grown hg (fun e => a2 _ e rfl), HS.row.grown hg (fun e => a1 _ e rfl), ?_⟩
  rw [c.txts_next, List.map_append]
  exact r1.mono (fun b _ hb => by
    have := HS.below.size
    rcases hb with hb | hb
    · exact hb
    · omega)
def PrintPost (c : Cr) (w : World) (e : Ending) (w' : World) : Prop := e = .returned (.tuple #[.string (if c.err = 0 then c.text else ⟨#[]⟩), .int .i64 c.err]) ∧ Below w.heap.size w w'
set_option maxRecDepth 100000 in
set_option maxHeartbeats 3200000 in
theorem cronPrint (c : Cr) (hf : c.fits) (w : World) : Calls Tryd.prog 14 #[.agg c.cells] w (PrintPost c w) := by
  have hB := Tide.At.made w 24 c.cells
  have hb := (Below.refl w.heap.size w).alloc (Nat.le_refl _) (.cells c.cells 24)
  have HB := Lib.hid hB; have HBl := Lib.hid hb
  have HF := Lib.hid hf
  obtain ⟨it, hit, hz0, hz1, hz2⟩ := info_split info_text
  clear hB hb hf
  go_enter Tryd.func14, Tryd.ntmps14
  go_upto_region 1 with fail
  generalize w.alloc (.cells c.cells 24) = W at HB HBl ⊢
  have x0 := HB.out.here (i := 0) (c.set_cell 0 (by decide)); have x1 := HB.out.here (i := 1) (c.set_cell 1 (by decide)); have x2 := HB.out.here (i := 2) (c.set_cell 2 (by decide)); have x3 := HB.out.here (i := 3) (c.set_cell 3 (by decide)); have x4 := HB.out.here (i := 4) (c.set_cell 4 (by decide))
  have x5 : W.cell? ⟨w.heap.size, 5, none⟩ = some (.bool c.ad) := HB.out.here rfl
  have x6 : W.cell? ⟨w.heap.size, 6, none⟩ = some (.bool c.aw) := HB.out.here rfl
  go_wp2_with fail
  refine (cronCheck c HF.out _).mono ?_
  rintro e w1 ⟨rfl, hb1⟩
  have HBl1 := Lib.hid (HBl.out.trans (hb1.mono HBl.out.size))
  have HB1 := Lib.hid (HB.out.below hb1 HB.out.inside)
  clear x0 x1 x2 x3 x4 x5 x6 hb1 HB HBl
  by_cases he : c.err = 0
  · have HQ := Lib.hid (fun w' (hb : Below w.heap.size w w') => (show PrintPost c w (.returned (.tuple #[.string c.text, .int .i64 0])) w' from ⟨by rw [if_pos he, he], hb⟩))
    rw [he]
    clear he
    go_wp2_with fail
    refine (cronFields w.heap.size _ c.cells HB1.out rfl).mono ?_
    rintro e w3 ⟨h, rfl, hh, ha, hb3⟩
    have HP := Lib.hid (show PrRun c w w3 h w.heap.size 0 (.slice none 0 0) from ⟨HBl1.out.trans (hb3.mono HBl1.out.size), ha, HB1.out.below hb3 HB1.out.inside, Tide.OwnRow.nil _ _ _ _⟩)
    clear hh ha hb3 HB1 HBl1
    generalize w.heap.size = g at HP ⊢
    go_wp2_with fail
    go_loopw [5, 15] (fun x y wr => ∃ k : Nat, k ≤ 5 ∧ y = .int .i64 k ∧ Hid (PrRun c w wr h g k x)) (fun _ y _ => 5 - (intOf y).toNat)
    case atStart => exact ⟨0, by omega, rfl, HP⟩
    case round =>
      clear HP
      obtain ⟨k, hk, rfl, HP⟩ := hrel
      have i0 : (0 : Int) ≤ (k : Int) := by omega
      obtain ⟨A, cap, rfl, hcA, hcB, _⟩ := HP.out.parts.slice
      by_cases hlt : k < 5
      · have i1 : (k : Int) < 5 := by omega
        have htx := fun W hA => cronText k g (c.set k) (anK k) (c.anyAt k) c.cells W hA (Cr.set_fits HF.out k) (c.set_cell k hlt) (c.any_none k hlt) (c.any_some k hlt)
        unfold fieldV at htx
        obtain ⟨t0, t1, t2, t3⟩ := fields_at HP.out.tab k hlt
        obtain ⟨P, hP⟩ : ∃ P, anyV g (anK k) = .pointer P := by cases anK k <;> exact ⟨_, rfl⟩
        rw [hP] at t3 htx
        have HTx := Lib.hid htx
        have HP1 := Lib.hid (HP.out.next ((Below.refl _ _).alloc (Nat.le_refl _) (.cells #[.pointer (some ⟨g, k, none⟩), .int .i64 ((Tide.lim k).1 : Nat), .int .i64 ((Tide.lim k).2 : Nat), .pointer P] 61)))
        have hB := Tide.At.made wr 61 #[.pointer (some ⟨g, k, none⟩), .int .i64 ((Tide.lim k).1 : Nat), .int .i64 ((Tide.lim k).2 : Nat), .pointer P]
        have HLt := Lib.hid hlt
        clear htx hP HP hlt
        go_upto_region 8 with fail
        have x0 := hB.here (i := 0) rfl; have x1 := hB.here (i := 1) rfl; have x2 := hB.here (i := 2) rfl; have x3 := hB.here (i := 3) rfl
        clear hB t0 t1 t2 t3
        go_wp2_with fail
        refine (HTx.out _ HP1.out.row).mono ?_
        rintro e w4 ⟨rfl, hb4⟩
        rw [show Tide.fieldTxt (c.set k) (Tide.lim k).1 (Tide.lim k).2 (c.anyAt k) = c.txt k from rfl]
        have HP4 := Lib.hid (HP1.out.next hb4)
        have HOx := Lib.hid (HP4.out.parts.alloc (.cells #[.string (c.txt k)] 9))
        have HM3 := Lib.hid (show k + 1 ≤ maxLen by simp only [maxLen]; omega)
        have HM4 := Lib.hid (show (k + 1) * 16 ≤ 140737488355328 by omega)
        clear HP1 HTx hb4 x0 x1 x2 x3
        go_wp2_with (at_builtin; go_loud (refine wpList_append_lies _ (by rfl) (.tmp 19) (.tmp 22) 53 (by rfl) 0 9 it (.string ByteArray.empty) 1 16 Tryd.underlying53 hit hz0 hz1 hz2 rfl (by decide) (.slice A k cap) _ _ rfl HOx.out.owns ⟨w4.heap.size, 0, none⟩ 1 1 [.string (c.txt k)] rfl rfl (Tide.new_one rfl) (by simp [Value.oneCell']) (by decide) HM3.out HM4.out (Nat.zero_le _) _ rfl ?_))
        intro b2 cap2 w5 hown hg ho hlt2
        have HN := Lib.hid (HP4.out.app hown hg ho hlt2)
        clear hown hg ho hlt2 HOx HP4
        go_wp2_with fail
        go_roundw
        case rel => exact ⟨k + 1, HLt.out, by go_num, HN⟩
        case measure => have := HLt.out; simp [intOf]; omega
      · have hke : k = 5 := by omega
        subst hke
        have i1 : (5 : Int) ≤ ((5 : Nat) : Int) := by omega
        have hsz := Tide.joinB_size 32 (k := 400) (c.txts_size 5)
        rw [c.txts_len 5] at hsz
        have HSz := Lib.hid (show (Lib.join ((c.txts 5).map (·.data.toList)) [32]).length ≤ 140737488355328 by
          have e := Tide.ba_size (Tide.joinB 32 (c.txts 5))
          have e2 : (Tide.joinB 32 (c.txts 5)).data.toList = Lib.join ((c.txts 5).map (·.data.toList)) [32] := rfl
          rw [e2] at e
          omega)
        obtain ⟨b, cap', e, _, _, _, hr⟩ := HP.out.parts.form (by decide)
        cases e
        have hl5 := c.txts_len 5
        have hj := Tryd.strings_Join b 0 cap (c.txts 5) ⟨#[32]⟩ wr (fun j x hx => by rw [Nat.zero_add]; exact hr.cell (by rw [List.getElem?_map, hx]; rfl)) hr.inside (by omega) (by omega) HSz.out
        rw [hl5] at hj
        have HJ := Lib.hid hj
        have HBx := Lib.hid HP.out.below
        clear hr hj HP hsz hl5 hlt
        go_wp2_with fail
        refine HJ.out.mono ?_
        rintro e w4 ⟨rfl, hb4⟩
        have HR := Lib.hid (HQ.out w4 (HBx.out.trans (hb4.mono HBx.out.size)))
        clear hb4
        go_wp2_with fail
        go_ret2
        exact HR.out
  · have HQ := Lib.hid (show PrintPost c w (.returned (.tuple #[.string ⟨#[]⟩, .int .i64 c.err])) w1 from ⟨by rw [if_neg he], HBl1.out⟩)
    go_wp2_with fail
    go_ret2
    exact HQ.out
end Go.Proofs.YthelnkoohbnjpaaDoor
