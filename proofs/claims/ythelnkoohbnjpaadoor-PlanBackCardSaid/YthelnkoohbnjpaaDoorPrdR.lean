/- The contracts of plan.read, (*reader).line and (*reader).row. -/
import Derived.Test.YthelnkoohbnjpaaDoorPrdC
import Derived.Test.YthelnkoohbnjpaaDoorWhlC
set_option linter.unusedVariables false
set_option linter.unusedSimpArgs false
namespace Go.Proofs.YthelnkoohbnjpaaDoor
open Go.RowKit
set_option linter.unusedVariables false
theorem same_words (x y : ByteArray) : (x.toList == y.toList) = decide (x = y) := by
  by_cases h : x = y
  · subst h; simp
  · rw [decide_eq_false h]
    have : x.toList ≠ y.toList := fun e => h (Tide.ba_ext (by rw [← ByteArray.toList_eq x, ← ByteArray.toList_eq y]; exact e))
    simpa using this
/-- behind the first k numbers -/
structure NumsAt (w wr : World) (g : Nat) (T : TypeId) (cs : Array Value) (os : List Nat) (ws : List ByteArray) (k : Nat) : Prop where
  at_ : Tide.At wr g T (setK cs os ws k)
  chg : Tide.Chg (fun b => b = g) w wr
  ok : firstOk ws k
set_option maxRecDepth 100000 in
set_option maxHeartbeats 3200000 in
theorem planRead (ws : List ByteArray) (os : List Nat) (bw off cap bt capt g : Nat) (T : TypeId) (cs : Array Value) (w : World) (hw : WdsAt w bw off ws) (hp : Tide.At w bt 113 (ptrs g os)) (hg : Tide.At w g T cs) (ho : ∀ o ∈ os, o < cs.size) (n1 : bw ≠ g) (n2 : bt ≠ g) (hs : ∀ x ∈ ws, x.size ≤ 1000000) (hl : os.length ≤ 8) (hwl : ws.length ≤ 1000001) :
    Calls Tryd.prog 63 #[.slice (some ⟨bw, off, none⟩) ws.length cap, .slice (some ⟨bt, 0, none⟩) os.length capt] w (NumsPost w g T cs os ws) := by
  have hwl2 : (ws.length : Int) ≤ 1000001 := by omega
  have hl2 : (os.length : Int) ≤ 8 := by omega
  by_cases hn : ws.length = os.length
  · have HN := Lib.hid (fun x (hx : x ∈ ws) (W : World) => planNumber x (hs x hx) W)
    have H0 := Lib.hid (show NumsAt w w g T cs os ws 0 from ⟨hg, Tide.Chg.refl _ _, fun i x hi => by omega⟩)
    have HO := Lib.hid ho
    have HWc := Lib.hid (fun (W : World) (hc : Tide.Chg (fun b => b = g) w W) => hw.chg hc n1)
    have HPc := Lib.hid (fun (W : World) (hc : Tide.Chg (fun b => b = g) w W) => hp.chg hc n2)
    have HEq := Lib.hid hn
    have hnb : ((ws.length : Int) != (os.length : Int)) = false := by rw [hn]; simp
    clear hw hp hg ho n1 n2 hs hn hwl hl
    go_enter Tryd.func63, Tryd.ntmps63
    go_wp2_with fail
    go_loopw [16] (fun i wr => ∃ k : Nat, k ≤ ws.length ∧ i = .int .i64 k ∧ Hid (NumsAt w wr g T cs os ws k)) (fun i _ => ws.length - (intOf i).toNat)
    case atStart => exact ⟨0, Nat.zero_le _, rfl, H0⟩
    case round =>
      clear H0
      obtain ⟨k, hk, rfl, HK⟩ := hrel
      by_cases hlt : k < ws.length
      · obtain ⟨x, hx⟩ := Tide.get_some ws hlt
        obtain ⟨o, hoo⟩ := Tide.get_some os (show k < os.length by have := HEq.out; omega)
        have k0 : (0 : Int) ≤ (k : Int) := by omega
        have k1 : (k : Int) < (ws.length : Int) := by omega
        have k2 : (k : Int) < (os.length : Int) := by have := HEq.out; omega
        have c0 : wr.cell? ⟨bw, off + k, none⟩ = some (.string x) := (HWc.out _ HK.out.chg).cell k x hx
        have c1 : wr.cell? ⟨bt, k, none⟩ = some (.pointer (some ⟨g, o, none⟩)) := (HPc.out _ HK.out.chg).here (by unfold ptrs; rw [List.getElem?_toArray, List.getElem?_map, hoo]; rfl)
        have hos := HO.out o (List.mem_of_getElem? hoo)
        obtain ⟨u, hu⟩ : ∃ u, (setK cs os ws k)[o]? = some u := ⟨_, Array.getElem?_eq_getElem (by rw [setK_size]; exact hos)⟩
        have c2 := HK.out.at_.here hu
        have p2 := HK.out.at_.soft o
        have HNx := Lib.hid (HN.out x (List.mem_of_getElem? hx) wr)
        have HEx := Lib.hid (show (setK cs os ws k).setIfInBounds o (.int .i64 (wV x)) = setK cs os ws (k + 1) by
          show _ = (setK cs os ws k).setIfInBounds (os.getD k 0) (.int .i64 (wV (Tide.pieceAt ws k)))
          rw [Tide.pieceAt_get hx, List.getD_eq_getElem?_getD, hoo]; rfl)
        have HLt := Lib.hid hlt
        have HXk := Lib.hid hx
        clear hlt hx hoo hos hu
        cases hok : wOk x
        · have HF := Lib.hid (show NumsPost w g T cs os ws (.returned (.bool false)) wr from ⟨by rw [words_bad HXk.out hok], ⟨k, by have := HEq.out; have := HLt.out; omega, HK.out.at_, fun h => by rw [words_bad HXk.out hok] at h; cases h⟩, HK.out.chg⟩)
          unfold WholePost at HNx
          rw [hok] at HNx
          clear HEx HK hok c1 c2 p2
          go_wp2_with fail
          refine HNx.out.mono ?_
          rintro e w1 ⟨rfl, rfl⟩
          go_wp2_with fail
          go_ret
          exact HF.out
        · have HNn := Lib.hid (show NumsAt w (wr.setCell ⟨g, o, none⟩ (.int .i64 (wV x))) g T cs os ws (k + 1) from ⟨by
            have := HK.out.at_.put o (.int .i64 (wV x))
            rw [HEx.out] at this; exact this, HK.out.chg.put (p := ⟨g, o, none⟩) (.inl rfl) _, firstOk_next HK.out.ok HXk.out hok⟩)
          unfold WholePost at HNx
          rw [hok] at HNx
          clear HEx HK hok
          generalize wV x = V at HNx HNn
          go_wp2_with fail
          refine HNx.out.mono ?_
          rintro e w1 ⟨rfl, rfl⟩
          go_wp2_with fail
          go_roundw
          case rel => exact ⟨k + 1, by have := HLt.out; omega, by go_num, HNn⟩
          case measure => have := HLt.out; simp [intOf]; omega
      · have hke : k = ws.length := by omega
        have HF := Lib.hid (show NumsPost w g T cs os ws (.returned (.bool true)) wr from ⟨by rw [words_all HEq.out (by rw [← HEq.out, ← hke]; exact HK.out.ok)], ⟨k, by have := HEq.out; omega, HK.out.at_, fun _ => by have := HEq.out; omega⟩, HK.out.chg⟩)
        clear HK hlt hk
        subst hke
        go_wp2_with fail
        go_ret
        exact HF.out
  · have HF := Lib.hid (show NumsPost w g T cs os ws (.returned (.bool false)) w from ⟨by rw [words_few hn], ⟨0, Nat.zero_le _, hg, fun h => by rw [words_few hn] at h; cases h⟩, Tide.Chg.refl _ _⟩)
    have hnb : ((ws.length : Int) != (os.length : Int)) = true := by simp; omega
    clear hw hp hg ho n1 n2 hs hn hwl hl
    go_enter Tryd.func63, Tryd.ntmps63
    go_wp2_with fail
    go_ret
    exact HF.out
/-- behind line -/
def LinePost (w : World) (g : Nat) (s : ByteArray) (at_ : Int) (e : Ending) (w' : World) : Prop :=
  ∃ bw, e = .returned (.tuple #[.slice (some ⟨bw, 0, none⟩) (wordsOf s).length (wordsOf s).length, .bool (Tide.cutZ 10 s)]) ∧ WdsAt w' bw 0 (wordsOf s) ∧ w.heap.size ≤ bw ∧ Tide.At w' g 91 #[.string (Tide.cutY 10 s), .int .i64 (at_ + 1)] ∧ Tide.Chg (fun b => b = g) w w'
theorem lineCut (s : ByteArray) (m : Int) (w : World) (hs : s.size ≤ 1000000) (hm : w.cell? ⟨0, 0, none⟩ = some (.int .i64 m)) :
    Calls Tryd.prog 72 #[.string s, .string ⟨#[10]⟩] w fun e w' => e = .returned (.tuple #[.string (Tide.cutX 10 s), .string (Tide.cutY 10 s), .bool (Tide.cutZ 10 s)]) ∧ Below w.heap.size w w' := shlCut 10 s m w hs hm
set_option maxRecDepth 100000 in
set_option maxHeartbeats 3200000 in
theorem readerLine (g : Nat) (s : ByteArray) (at_ m : Int) (w : World) (h : Tide.At w g 91 #[.string s, .int .i64 at_]) (hs : s.size ≤ 1000000) (a0 : 0 ≤ at_) (a1 : at_ ≤ 1000000) (hm : w.cell? ⟨0, 0, none⟩ = some (.int .i64 m)) (hgm : 0 ≠ g) :
    Calls Tryd.prog 62 #[.pointer (some ⟨g, 0, none⟩)] w (LinePost w g s at_) := by
  have c0 := h.here (i := 0) rfl
  have HC := Lib.hid (lineCut s m w hs hm)
  have hml := World.block_lt_of_cell? _ _ hm
  have HH := Lib.hid h; have HM := Lib.hid hm
  have hx := Tide.cutX_size 10 s
  have HSz := Lib.hid (show (Tide.cutX 10 s).size ≤ 1000000 by omega)
  have HWo := Lib.hid (show Tide.piecesB 32 (Tide.cutX 10 s) = wordsOf s from rfl)
  have HFin := Lib.hid (fun (W2 : World) (h2 : Tide.At W2 g 91 #[.string (Tide.cutY 10 s), .int .i64 (at_ + 1)]) (hc : Tide.Chg (fun b => b = g) w W2) => (show LinePost w g s at_ (.returned (.tuple #[.slice (some ⟨W2.heap.size, 0, none⟩) (wordsOf s).length (wordsOf s).length, .bool (Tide.cutZ 10 s)])) (W2.alloc (.cells ((wordsOf s).map Value.string).toArray 9)) from ⟨W2.heap.size, rfl, WdsAt.of_at (Tide.At.made _ _ _), hc.size, h2.alloc _, hc.alloc _⟩))
  generalize Tide.cutX 10 s = X at HC HSz HWo
  generalize wordsOf s = ws at HWo HFin
  clear h hm hs hx
  go_enter Tryd.func62, Tryd.ntmps62
  go_wp2_with fail
  refine HC.out.mono ?_
  rintro e w1 ⟨rfl, hb1⟩
  have H1 := Lib.hid (HH.out.below hb1 HH.out.inside)
  have HC1 := Lib.hid (Tide.Chg.of_below (S := fun b => b = g) hb1 (Nat.le_refl _))
  clear hb1 c0 HC HH
  have c0 := H1.out.here (i := 0) rfl
  have c1 := H1.out.here (i := 1) rfl
  have p0 := H1.out.soft 0
  have p1 := H1.out.soft 1
  have H2 := Lib.hid ((H1.out.put 1 (.int .i64 (at_ + 1))).put 0 (.string (Tide.cutY 10 s)))
  have HC2 := Lib.hid ((HC1.out.put (p := ⟨g, 1, none⟩) (.inl rfl) (.int .i64 (at_ + 1))).put (p := ⟨g, 0, none⟩) (.inl rfl) (.string (Tide.cutY 10 s)))
  have HM2 := Lib.hid ((chg_cell HC2.out hml hgm 0).trans HM.out)
  go_upto_region 4 with fail
  clear c0 c1 p0 p1 H1 HC1
  generalize (w1.setCell ⟨g, 1, none⟩ (.int .i64 (at_ + 1))).setCell ⟨g, 0, none⟩ (.string (Tide.cutY 10 s)) = W2 at H2 HC2 HM2 ⊢
  have HS := Lib.hid (shlSplit 32 X m W2 HSz.out HM2.out)
  rw [HWo.out] at HS
  go_wp2_with fail
  refine HS.out.mono ?_
  rintro e w3 ⟨rfl, rfl⟩
  have HF := Lib.hid (HFin.out W2 H2.out HC2.out)
  clear HS
  go_wp2_with fail
  go_ret2
  exact HF.out
end Go.Proofs.YthelnkoohbnjpaaDoor
