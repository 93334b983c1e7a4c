/- Of the texts PrdR, PrdS, PrdH: what this claim reaches. -/
import Derived.Test.YtidonhndeohdlaaGreatDoorTt14
set_option linter.unusedVariables false
set_option linter.unusedSimpArgs false
namespace Go.Proofs.YtidonhndeohdlaaGreatDoor
open Go.RowKit
theorem same_words (x y : ByteArray) : (x.toList == y.toList) = decide (x = y) := by
  by_cases h : x = y
  · subst h; simp
  · rw [decide_eq_false h]
    have : x.toList ≠ y.toList := fun e => h (Tide.ba_ext (by rw [← ByteArray.toList_eq x, ← ByteArray.toList_eq y]; exact e))
    simpa using this
structure NumsAt (w wr : World) (g : Nat) (T : TypeId) (cs : Array Value) (os : List Nat) (ws : List ByteArray) (k : Nat) : Prop where
  at_ : Tide.At wr g T (setK cs os ws k)
  chg : Tide.Chg (fun b => b = g) w wr
  ok : firstOk ws k
set_option maxRecDepth 100000 in
set_option maxHeartbeats 3200000 in
theorem planRead (ws : List ByteArray) (os : List Nat) (bw off cap bt capt g : Nat) (T : TypeId) (cs : Array Value) (w : World) (hw : WdsAt w bw off ws) (hp : Tide.At w bt 114 (ptrs g os)) (hg : Tide.At w g T cs) (ho : ∀ o ∈ os, o < cs.size) (n1 : bw ≠ g) (n2 : bt ≠ g) (hs : ∀ x ∈ ws, x.size ≤ 1000000) (hl : os.length ≤ 8) (hwl : ws.length ≤ 1000001) :
    Calls Tryz.prog 54 #[.slice (some ⟨bw, off, none⟩) ws.length cap, .slice (some ⟨bt, 0, none⟩) os.length capt] w (NumsPost w g T cs os ws) := by
  have hwl2 : (ws.length : Int) ≤ 1000001 := by omega
  have hl2 : (os.length : Int) ≤ 8 := by omega
  by_cases hn : ws.length = os.length
  · have HN := Lib.hid (fun x (hx : x ∈ ws) (W : World) => planNumber x (hs x hx) W)
    have H0 := Lib.hid (show NumsAt w w g T cs os ws 0 from ⟨hg, Tide.Chg.refl _ _, fun i x hi => by omega⟩)
    have HO := Lib.hid ho
    have HWc := Lib.hid (fun (W : World) (hc : Tide.Chg (fun b => b = g) w W) => hw.chg hc n1)
    have HPc := Lib.hid (fun (W : World) (hc : Tide.Chg (fun b => b = g) w W) => hp.chg hc n2)
    have HEq := Lib.hid hn
    have hnb : ((ws.length : Int) != (os.length : Int)) = false := by rw [hn]; simp
    clear hw hp hg ho n1 n2 hs hn hwl hl
    go_enter Tryz.func54, Tryz.ntmps54
    go_wp2_with fail
    go_loopw [16] (fun i wr => ∃ k : Nat, k ≤ ws.length ∧ i = .int .i64 k ∧ Hid (NumsAt w wr g T cs os ws k)) (fun i _ => ws.length - (intOf i).toNat)
    case atStart => exact ⟨0, Nat.zero_le _, rfl, H0⟩
    case round =>
      clear H0
      obtain ⟨k, hk, rfl, HK⟩ := hrel
      by_cases hlt : k < ws.length
      · obtain ⟨x, hx⟩ := Tide.get_some ws hlt
        obtain ⟨o, hoo⟩ := Tide.get_some os (show k < os.length by have := HEq.out; omega)
        have k0 : (0 : Int) ≤ (k : Int) := by omega
        have k1 : (k : Int) < (ws.length : Int) := by omega
        have k2 : (k : Int) < (os.length : Int) := by have := HEq.out; omega
        have c0 : wr.cell? ⟨bw, off + k, none⟩ = some (.string x) := (HWc.out _ HK.out.chg).cell k x hx
        have c1 : wr.cell? ⟨bt, k, none⟩ = some (.pointer (some ⟨g, o, none⟩)) := (HPc.out _ HK.out.chg).here (by unfold ptrs; rw [List.getElem?_toArray, List.getElem?_map, hoo]; rfl)
        have hos := HO.out o (List.mem_of_getElem? hoo)
        obtain ⟨u, hu⟩ : ∃ u, (setK cs os ws k)[o]? = some u := ⟨_, Array.getElem?_eq_getElem (by rw [setK_size]; exact hos)⟩
        have c2 := HK.out.at_.here hu
        have p2 := HK.out.at_.soft o
        have HNx := Lib.hid (HN.out x (List.mem_of_getElem? hx) wr)
        have HEx := Lib.hid (show (setK cs os ws k).setIfInBounds o (.int .i64 (wV x)) = setK cs os ws (k + 1) by
          show _ = (setK cs os ws k).setIfInBounds (os.getD k 0) (.int .i64 (wV (Tide.pieceAt ws k)))
          rw [Tide.pieceAt_get hx, List.getD_eq_getElem?_getD, hoo]; rfl)
        have HLt := Lib.hid hlt
        have HXk := Lib.hid hx
        clear hlt hx hoo hos hu
        cases hok : wOk x
        · have HF := Lib.hid (show NumsPost w g T cs os ws (.returned (.bool false)) wr from ⟨by rw [words_bad HXk.out hok], ⟨k, by have := HEq.out; have := HLt.out; omega, HK.out.at_, fun h => by rw [words_bad HXk.out hok] at h; cases h⟩, HK.out.chg⟩)
          unfold WholePost at HNx
          rw [hok] at HNx
          clear HEx HK hok c1 c2 p2
          go_wp2_with fail
          refine HNx.out.mono ?_
          rintro e w1 ⟨rfl, rfl⟩
          go_wp2_with fail
          go_ret
          exact HF.out
        · have HNn := Lib.hid (show NumsAt w (wr.setCell ⟨g, o, none⟩ (.int .i64 (wV x))) g T cs os ws (k + 1) from ⟨by
            have := HK.out.at_.put o (.int .i64 (wV x))
            rw [HEx.out] at this; exact this, HK.out.chg.put (p := ⟨g, o, none⟩) (.inl rfl) _, firstOk_next HK.out.ok HXk.out hok⟩)
          unfold WholePost at HNx
          rw [hok] at HNx
          clear HEx HK hok
          generalize wV x = V at HNx HNn
          go_wp2_with fail
          refine HNx.out.mono ?_
          rintro e w1 ⟨rfl, rfl⟩
          go_wp2_with fail
          go_roundw
          case rel => exact ⟨k + 1, by have := HLt.out; omega, by go_num, HNn⟩
          case measure => have := HLt.out; simp [intOf]; omega
      · have hke : k = ws.length := by omega
        have HF := Lib.hid (show NumsPost w g T cs os ws (.returned (.bool true)) wr from ⟨by rw [words_all HEq.out (by rw [← HEq.out, ← hke]; exact HK.out.ok)], ⟨k, by have := HEq.out; omega, HK.out.at_, fun _ => by have := HEq.out; omega⟩, HK.out.chg⟩)
        clear HK hlt hk
        subst hke
        go_wp2_with fail
        go_ret
        exact HF.out
  · have HF := Lib.hid (show NumsPost w g T cs os ws (.returned (.bool false)) w from ⟨by rw [words_few hn], ⟨0, Nat.zero_le _, hg, fun h => by rw [words_few hn] at h; cases h⟩, Tide.Chg.refl _ _⟩)
    have hnb : ((ws.length : Int) != (os.length : Int)) = true := by simp; omega
    clear hw hp hg ho n1 n2 hs hn hwl hl
    go_enter Tryz.func54, Tryz.ntmps54
    go_wp2_with fail
    go_ret
    exact HF.out
def LinePost (w : World) (g : Nat) (s : ByteArray) (at_ : Int) (e : Ending) (w' : World) : Prop :=
  ∃ bw, e = .returned (.tuple #[.slice (some ⟨bw, 0, none⟩) (wordsOf s).length (wordsOf s).length, .bool (Tide.cutZ 10 s)]) ∧ WdsAt w' bw 0 (wordsOf s) ∧ w.heap.size ≤ bw ∧ Tide.At w' g 70 #[.string (Tide.cutY 10 s), .int .i64 (at_ + 1)] ∧ Tide.Chg (fun b => b = g) w w'
theorem lineCut (s : ByteArray) (m : Int) (w : World) (hs : s.size ≤ 1000000) (hm : w.cell? ⟨1, 0, none⟩ = some (.int .i64 m)) :
    Calls Tryz.prog 83 #[.string s, .string ⟨#[10]⟩] w fun e w' => e = .returned (.tuple #[.string (Tide.cutX 10 s), .string (Tide.cutY 10 s), .bool (Tide.cutZ 10 s)]) ∧ Below w.heap.size w w' := shlCut 10 s m w hs hm
set_option maxRecDepth 100000 in
set_option maxHeartbeats 3200000 in
theorem readerLine (g : Nat) (s : ByteArray) (at_ m : Int) (w : World) (h : Tide.At w g 70 #[.string s, .int .i64 at_]) (hs : s.size ≤ 1000000) (a0 : 0 ≤ at_) (a1 : at_ ≤ 1000000) (hm : w.cell? ⟨1, 0, none⟩ = some (.int .i64 m)) (hgm : 1 ≠ g) :
    Calls Tryz.prog 53 #[.pointer (some ⟨g, 0, none⟩)] w (LinePost w g s at_) := by
  have c0 := h.here (i := 0) rfl
  have HC := Lib.hid (lineCut s m w hs hm)
  have hml := World.block_lt_of_cell? _ _ hm
  have HH := Lib.hid h; have HM := Lib.hid hm
  have hx := Tide.cutX_size 10 s
  have HSz := Lib.hid (show (Tide.cutX 10 s).size ≤ 1000000 by omega)
  have HWo := Lib.hid (show Tide.piecesB 32 (Tide.cutX 10 s) = wordsOf s from rfl)
  have HFin := Lib.hid (fun (W2 : World) (h2 : Tide.At W2 g 70 #[.string (Tide.cutY 10 s), .int .i64 (at_ + 1)]) (hc : Tide.Chg (fun b => b = g) w W2) => (show LinePost w g s at_ (.returned (.tuple #[.slice (some ⟨W2.heap.size, 0, none⟩) (wordsOf s).length (wordsOf s).length, .bool (Tide.cutZ 10 s)])) (W2.alloc (.cells ((wordsOf s).map Value.string).toArray 9)) from ⟨W2.heap.size, rfl, WdsAt.of_at (Tide.At.made _ _ _), hc.size, h2.alloc _, hc.alloc _⟩))
  generalize Tide.cutX 10 s = X at HC HSz HWo
  generalize wordsOf s = ws at HWo HFin
  clear h hm hs hx
  go_enter Tryz.func53, Tryz.ntmps53
  go_wp2_with fail
  refine HC.out.mono ?_
  rintro e w1 ⟨rfl, hb1⟩
  have H1 := Lib.hid (HH.out.below hb1 HH.out.inside)
  have HC1 := Lib.hid (Tide.Chg.of_below (S := fun b => b = g) hb1 (Nat.le_refl _))
  clear hb1 c0 HC HH
  have c0 := H1.out.here (i := 0) rfl
  have c1 := H1.out.here (i := 1) rfl
  have p0 := H1.out.soft 0
  have p1 := H1.out.soft 1
  have H2 := Lib.hid ((H1.out.put 1 (.int .i64 (at_ + 1))).put 0 (.string (Tide.cutY 10 s)))
  have HC2 := Lib.hid ((HC1.out.put (p := ⟨g, 1, none⟩) (.inl rfl) (.int .i64 (at_ + 1))).put (p := ⟨g, 0, none⟩) (.inl rfl) (.string (Tide.cutY 10 s)))
  have HM2 := Lib.hid ((chg_cell HC2.out hml hgm 0).trans HM.out)
  go_upto_region 4 with fail
  clear c0 c1 p0 p1 H1 HC1
  generalize (w1.setCell ⟨g, 1, none⟩ (.int .i64 (at_ + 1))).setCell ⟨g, 0, none⟩ (.string (Tide.cutY 10 s)) = W2 at H2 HC2 HM2 ⊢
  have HS := Lib.hid (shlSplit 32 X m W2 HSz.out HM2.out)
  rw [HWo.out] at HS
  go_wp2_with fail
  refine HS.out.mono ?_
  rintro e w3 ⟨rfl, rfl⟩
  have HF := Lib.hid (HFin.out W2 H2.out HC2.out)
  clear HS
  go_wp2_with fail
  go_ret2
  exact HF.out
open Go.RowKit
def RowPost (word : ByteArray) (w : World) (g : Nat) (s : ByteArray) (at_ : Int) (gp : Nat) (T : TypeId) (cs : Array Value) (os : List Nat) (e : Ending) (w' : World) : Prop :=
  e = .returned (.bool (Tide.cutZ 10 s && rowOk word (wordsOf s))) ∧ Tide.At w' g 70 #[.string (Tide.cutY 10 s), .int .i64 (at_ + 1)] ∧ (∃ k, k ≤ 4 ∧ Tide.At w' gp T (setK cs os ((wordsOf s).drop 1) k) ∧ ((Tide.cutZ 10 s && rowOk word (wordsOf s)) = true → k = 4)) ∧ Tide.Chg (fun b => b = g ∨ b = gp) w w'
theorem words_len (s : ByteArray) (hs : s.size ≤ 1000000) : 1 ≤ (wordsOf s).length ∧ (wordsOf s).length ≤ 1000001 ∧ ∀ x ∈ wordsOf s, x.size ≤ 1000000 := by
  have h1 := Tide.cutX_size 10 s
  refine ⟨Tide.piecesB_pos 32 _, ?_, fun x hx => ?_⟩
  · have := Tide.piecesB_few 32 (Tide.cutX 10 s)
    show (Tide.piecesB 32 (Tide.cutX 10 s)).length ≤ _
    omega
  · have := Tide.piecesB_le (show x ∈ Tide.piecesB 32 (Tide.cutX 10 s) from hx); omega
set_option maxRecDepth 100000 in
set_option maxHeartbeats 3200000 in
theorem readerRow (word : ByteArray) (g : Nat) (s : ByteArray) (at_ m : Int) (gp bt capt : Nat) (T : TypeId) (cs : Array Value) (os : List Nat) (w : World) (h : Tide.At w g 70 #[.string s, .int .i64 at_]) (hs : s.size ≤ 1000000) (a0 : 0 ≤ at_) (a1 : at_ ≤ 1000000) (hm : w.cell? ⟨1, 0, none⟩ = some (.int .i64 m)) (hgm : 1 ≠ g)
    (hp : Tide.At w bt 114 (ptrs gp os)) (hg : Tide.At w gp T cs) (hos : os.length = 4) (ho : ∀ o ∈ os, o < cs.size) (n1 : gp ≠ g) (n2 : bt ≠ g) (n3 : bt ≠ gp) :
    Calls Tryz.prog 55 #[.pointer (some ⟨g, 0, none⟩), .string word, .slice (some ⟨bt, 0, none⟩) 4 capt] w (RowPost word w g s at_ gp T cs os) := by
  obtain ⟨l0, l1, l2⟩ := words_len s hs
  have HW := Lib.hid l2
  have HLn := Lib.hid (readerLine g s at_ m w h hs a0 a1 hm hgm)
  have HGp := Lib.hid hg
  have HPt := Lib.hid hp
  have hgl := hg.inside
  have HRd0 := Lib.hid (fun (bw : Nat) (W : World) (hb : w.heap.size ≤ bw) (hl1 : (wordsOf s).length = 1) (hw : WdsAt W bw 0 (wordsOf s)) (hc : Tide.Chg (fun b => b = g) w W) => (by
    have e : (wordsOf s).drop 1 = [] := List.drop_eq_nil_of_le (by omega)
    rw [e]
    have := planRead [] os bw 0 0 bt capt gp T cs W (hw.take 0) (hp.chg hc n2) (hg.chg hc n1) ho (by omega) n3 (fun x hx => by cases hx) (by omega) (by simp)
    rw [hos] at this
    exact this : Calls Tryz.prog 54 #[.slice (some ⟨bw, 0, none⟩) 0 0, .slice (some ⟨bt, 0, none⟩) 4 capt] W (NumsPost W gp T cs os ((wordsOf s).drop 1))))
  have HRd := Lib.hid (fun (bw : Nat) (W : World) (hb : w.heap.size ≤ bw) (hw : WdsAt W bw 0 (wordsOf s)) (hc : Tide.Chg (fun b => b = g) w W) => (by
    have := planRead ((wordsOf s).drop 1) os bw 1 ((wordsOf s).length - 1) bt capt gp T cs W (by have := hw.drop 1; rwa [Nat.zero_add] at this) (hp.chg hc n2) (hg.chg hc n1) ho (by omega) n3 (fun x hx => l2 x (List.mem_of_mem_drop hx)) (by omega) (by rw [List.length_drop]; omega)
    rw [List.length_drop, hos] at this
    exact this : Calls Tryz.prog 54 #[.slice (some ⟨bw, 1, none⟩) ((wordsOf s).length - 1) ((wordsOf s).length - 1), .slice (some ⟨bt, 0, none⟩) 4 capt] W (NumsPost W gp T cs os ((wordsOf s).drop 1))))
  obtain ⟨x, hx⟩ := Tide.get_some (wordsOf s) (show 0 < (wordsOf s).length by omega)
  have hpx := Tide.pieceAt_get hx
  have HX := Lib.hid hx
  have HRow := Lib.hid (show rowOk word (wordsOf s) = (decide (x = word) && wordsOk ((wordsOf s).drop 1) 4) by unfold rowOk; rw [hpx])
  have HFin := Lib.hid (fun (b : Bool) (k : Nat) (W : World) (hb : (Tide.cutZ 10 s && rowOk word (wordsOf s)) = b) (hk : k ≤ 4) (h1 : Tide.At W g 70 #[.string (Tide.cutY 10 s), .int .i64 (at_ + 1)]) (h2 : Tide.At W gp T (setK cs os ((wordsOf s).drop 1) k)) (h3 : b = true → k = 4) (h4 : Tide.Chg (fun b => b = g ∨ b = gp) w W) =>
    (show RowPost word w g s at_ gp T cs os (.returned (.bool b)) W from ⟨by rw [hb], h1, ⟨k, hk, h2, fun h => h3 (hb.symm.trans h)⟩, h4⟩))
  have HOs := Lib.hid hos
  clear h hs a0 a1 hm hgm hp hg hos ho n2 l2 hx hpx
  obtain ⟨n, hn⟩ : ∃ n, (wordsOf s).length = n := ⟨_, rfl⟩
  unfold LinePost at HLn
  rw [hn] at HRd HRd0 HLn l0 l1
  have i0 : (1 : Int) ≤ (n : Int) := by omega
  have i1 : (n : Int) ≤ 1000001 := by omega
  have i2 : (0 : Int) < (n : Int) := by omega
  clear hn
  go_enter Tryz.func55, Tryz.ntmps55
  go_wp2_with fail
  refine HLn.out.mono ?_
  rintro e w1 ⟨bw, rfl, hw1, hbw, hr1, hc1⟩
  have c0 : w1.cell? ⟨bw, 0, none⟩ = some (.string x) := hw1.cell 0 x HX.out
  have HR := Lib.hid (HRd.out bw w1 hbw hw1 hc1)
  have HR0 := Lib.hid (fun h => HRd0.out bw w1 hbw h hw1 hc1)
  have HRr := Lib.hid hr1
  have HC1 := Lib.hid (hc1.mono (fun b _ hb => (Or.inl hb : b = g ∨ b = gp)))
  have HG1 := Lib.hid (HGp.out.chg hc1 n1)
  clear hw1 hbw hr1 hc1 HLn HRd HRd0 HGp HPt
  cases hz : Tide.cutZ 10 s
  · have HF := Lib.hid (HFin.out false 0 w1 (by rw [hz]; rfl) (by omega) HRr.out HG1.out (by simp) HC1.out)
    clear HR HR0 hz
    go_wp2_with fail
    go_ret
    exact HF.out
  · by_cases hxw : x = word
    · have e1 : (x.toList == word.toList) = true := by rw [same_words]; exact decide_eq_true hxw
      have HFin2 := Lib.hid (fun (b : Bool) (k : Nat) (W : World) (hb : wordsOk ((wordsOf s).drop 1) 4 = b) (hk : k ≤ 4) h1 h2 h3 h4 => HFin.out b k W (by rw [hz, HRow.out, decide_eq_true hxw]; exact hb) hk h1 h2 h3 h4)
      clear hz hxw HFin
      by_cases hn1 : n = 1
      · subst hn1
        have HRz := Lib.hid (HR0.out rfl)
        clear l0 l1 i0 i1 i2
        go_wp2_with fail
        refine HRz.out.mono ?_
        rintro e w2 ⟨rfl, ⟨k, hk, hat, hkk⟩, hc2⟩
        rw [HOs.out] at hk hkk ⊢
        have HF := Lib.hid (HFin2.out _ k w2 rfl hk (HRr.out.chg hc2 (fun e => n1 e.symm)) hat hkk (HC1.out.trans (hc2.mono fun b _ hb => Or.inr hb)))
        clear hk hat hkk hc2 HR HR0
        generalize wordsOk ((wordsOf s).drop 1) 4 = q at HF ⊢
        cases q
        · go_wp2_with fail
          go_ret
          exact HF.out
        · go_wp2_with fail
          go_ret
          exact HF.out
      · have i4 : (1 : Int) < (n : Int) := by omega
        have i5 : 1 < n := by omega
        clear hn1 l0 l1 HR0
        have HR0 := i5
        go_wp2_with fail
        refine HR.out.mono ?_
        rintro e w2 ⟨rfl, ⟨k, hk, hat, hkk⟩, hc2⟩
        rw [HOs.out] at hk hkk ⊢
        have HF := Lib.hid (HFin2.out _ k w2 rfl hk (HRr.out.chg hc2 (fun e => n1 e.symm)) hat hkk (HC1.out.trans (hc2.mono fun b _ hb => Or.inr hb)))
        clear hk hat hkk hc2 HR HR0
        generalize wordsOk ((wordsOf s).drop 1) 4 = q at HF ⊢
        cases q
        · go_wp2_with fail
          go_ret
          exact HF.out
        · go_wp2_with fail
          go_ret
          exact HF.out
    · have e1 : (x.toList == word.toList) = false := by rw [same_words]; exact decide_eq_false hxw
      have HF := Lib.hid (HFin.out false 0 w1 (by rw [HRow.out, decide_eq_false hxw]; simp) (by omega) HRr.out HG1.out (by simp) HC1.out)
      clear HR HR0 hz hxw
      go_wp2_with fail
      go_ret
      exact HF.out
open Go.RowKit
theorem piece_drop (ws : List ByteArray) (k i : Nat) : Tide.pieceAt (ws.drop k) i = Tide.pieceAt ws (k + i) := by
  unfold Tide.pieceAt
  rw [List.getD_eq_getElem?_getD, List.getD_eq_getElem?_getD, List.getElem?_drop]
theorem head_row0 {p : Pln} {ws : List ByteArray} {v : Value} (h : headOk ws = true) : ∃ p', lineN 0 p ws = some p' ∧ p'.trigs = p.trigs ∧ (setK (plnC p v) [1, 2, 3, 4] (ws.drop 2) 4).setIfInBounds 0 (.string (Tide.pieceAt ws 1)) = plnC p' v := by
  refine ⟨_, if_pos h, rfl, ?_⟩
  simp only [setK, piece_drop]
  rfl
theorem head_row1 {p : Pln} {ws : List ByteArray} {v : Value} (h : rowOk wdRest ws = true) : ∃ p', lineN 1 p ws = some p' ∧ p'.trigs = p.trigs ∧ setK (plnC p v) [5, 6, 7, 8] (ws.drop 1) 4 = plnC p' v := by
  refine ⟨_, if_pos h, rfl, ?_⟩
  simp only [setK, piece_drop]
  rfl
theorem head_row2 {p : Pln} {ws : List ByteArray} {v : Value} (h : rowOk wdUp ws = true) : ∃ p', lineN 2 p ws = some p' ∧ p'.trigs = p.trigs ∧ setK (plnC p v) [9, 10, 11, 12] (ws.drop 1) 4 = plnC p' v := by
  refine ⟨_, if_pos h, rfl, ?_⟩
  simp only [setK, piece_drop]
  rfl
theorem head_row3 {p : Pln} {ws : List ByteArray} {v : Value} (h : rowOk wdDown ws = true) : ∃ p', lineN 3 p ws = some p' ∧ p'.trigs = p.trigs ∧ setK (plnC p v) [13, 14, 15, 16] (ws.drop 1) 4 = plnC p' v := by
  refine ⟨_, if_pos h, rfl, ?_⟩
  simp only [setK, piece_drop]
  rfl
def rowAt : Nat → ByteArray × List Nat
  | 1 => (wdRest, [5, 6, 7, 8])
  | 2 => (wdUp, [9, 10, 11, 12])
  | _ => (wdDown, [13, 14, 15, 16])
theorem row_good {i : Nat} (h0 : 1 ≤ i) (h1 : i ≤ 3) {p : Pln} {ws : List ByteArray} {v : Value} (h : rowOk (rowAt i).1 ws = true) : ∃ p', lineN i p ws = some p' ∧ p'.trigs = p.trigs ∧ setK (plnC p v) (rowAt i).2 (ws.drop 1) 4 = plnC p' v := by
  rcases (show i = 1 ∨ i = 2 ∨ i = 3 by omega) with rfl | rfl | rfl
  · exact head_row1 h
  · exact head_row2 h
  · exact head_row3 h
theorem row_ill {i : Nat} (h0 : 1 ≤ i) (h1 : i ≤ 3) {p : Pln} {ws : List ByteArray} (h : rowOk (rowAt i).1 ws = false) : lineN i p ws = none := by
  rcases (show i = 1 ∨ i = 2 ∨ i = 3 by omega) with rfl | rfl | rfl
  · exact if_neg (by show ¬ rowOk wdRest ws = true; rw [show rowOk wdRest ws = false from h]; simp)
  · exact if_neg (by show ¬ rowOk wdUp ws = true; rw [show rowOk wdUp ws = false from h]; simp)
  · exact if_neg (by show ¬ rowOk wdDown ws = true; rw [show rowOk wdDown ws = false from h]; simp)
theorem row_cells {i : Nat} (h0 : 1 ≤ i) (h1 : i ≤ 3) : (rowAt i).2.length = 4 ∧ ∀ o ∈ (rowAt i).2, o < 18 := by
  rcases (show i = 1 ∨ i = 2 ∨ i = 3 by omega) with rfl | rfl | rfl
  · exact ⟨rfl, by decide⟩
  · exact ⟨rfl, by decide⟩
  · exact ⟨rfl, by decide⟩
structure HdS (w0 W : World) (R : Option Pln × Nat) (m : Int) (g gp : Nat) (v : Value) (i : Nat) (p : Pln) (rest : ByteArray) : Prop where
  reads : Reads i p rest R
  plan : Tide.At W gp 26 (plnC p v)
  rd : Tide.At W g 70 #[.string rest, .int .i64 (i : Int)]
  mx : W.cell? ⟨1, 0, none⟩ = some (.int .i64 m)
  chg : Tide.Chg (fun b => b = g ∨ b = gp) w0 W
  trigs : p.trigs = []
  size : rest.size ≤ 1000000
  few : i ≤ 1000
  ne : gp ≠ g ∧ 1 ≠ g ∧ 1 ≠ gp
  sz : rest.size ≤ 2048
def BadS (w0 W : World) (R : Option Pln × Nat) (g gp : Nat) : Prop := ∃ (k : Nat) (rest : ByteArray), R = (none, k) ∧ Tide.At W g 70 #[.string rest, .int .i64 (k : Int)] ∧ Tide.Chg (fun b => b = g ∨ b = gp) w0 W
section
variable {w0 W W' : World} {R : Option Pln × Nat} {m : Int} {g gp i : Nat} {v : Value} {p : Pln} {rest : ByteArray}
theorem HdS.below (h : HdS w0 W R m g gp v i p rest) (hb : Below W.heap.size W W') : HdS w0 W' R m g gp v i p rest :=
  ⟨h.reads, h.plan.below hb h.plan.inside, h.rd.below hb h.rd.inside, (hb.cell (p := ⟨1, 0, none⟩) (World.block_lt_of_cell? _ _ h.mx)).trans h.mx, h.chg.step_below hb h.chg.size, h.trigs, h.size, h.few, h.ne, h.sz⟩
theorem HdS.alloc (h : HdS w0 W R m g gp v i p rest) (o : Obj) : HdS w0 (W.alloc o) R m g gp v i p rest := h.below ((Below.refl _ _).alloc (Nat.le_refl _) o)
theorem HdS.drew (h : HdS w0 W R m g gp v i p rest) : HdS w0 W.drew R m g gp v i p rest := h.below (Below.refl _ _).drew
end
def StepPost (w0 : World) (R : Option Pln × Nat) (m : Int) (g gp : Nat) (v : Value) (i : Nat) (e : Ending) (W' : World) : Prop :=
  ∃ b, e = .returned (.bool b) ∧ (b = true → ∃ p rest, HdS w0 W' R m g gp v (i + 1) p rest) ∧ (b = false → BadS w0 W' R g gp)
theorem headRow (w0 W : World) (R : Option Pln × Nat) (m : Int) (g gp : Nat) (v : Value) (i : Nat) (p : Pln) (rest : ByteArray) (bt : Nat) (capt : Nat) (h0 : 1 ≤ i) (h1 : i ≤ 3) (h : HdS w0 W R m g gp v i p rest) (hp : Tide.At W bt 114 (ptrs gp (rowAt i).2)) (n2 : bt ≠ g) (n3 : bt ≠ gp) :
    Calls Tryz.prog 55 #[.pointer (some ⟨g, 0, none⟩), .string (rowAt i).1, .slice (some ⟨bt, 0, none⟩) 4 capt] W (StepPost w0 R m g gp v i) := by
  obtain ⟨hl, ho⟩ := row_cells h0 h1
  refine (readerRow (rowAt i).1 g rest (i : Int) m gp bt capt 26 (plnC p v) (rowAt i).2 W h.rd h.size (by omega) (by omega) h.mx h.ne.2.1 hp h.plan hl (fun o q => ho o q) h.ne.1 n2 n3).mono ?_
  rintro e W' ⟨he, hr, ⟨k, hk, hpl, hk4⟩, hc⟩
  refine ⟨_, he, fun hb => ?_, fun hb => ?_⟩
  · rw [Bool.and_eq_true] at hb
    obtain ⟨p', e1, e2, e3⟩ := row_good (p := p) (v := v) h0 h1 hb.2
    have hk' := hk4 (by rw [hb.1, hb.2]; rfl)
    subst hk'
    rw [e3] at hpl
    refine ⟨p', _, h.reads.next (.inl (by omega)) hb.1 e1, hpl, hr, ?_, h.chg.trans hc, e2.trans h.trigs, Nat.le_trans (Tide.cutY_size 10 rest) h.size, by omega, h.ne, Nat.le_trans (Tide.cutY_size 10 rest) h.sz⟩
    exact (chg_cell hc (World.block_lt_of_cell? _ _ h.mx) (fun hb => hb.elim h.ne.2.1 h.ne.2.2) 0).trans h.mx
  · refine ⟨i + 1, _, ?_, hr, h.chg.trans hc⟩
    cases hz : Tide.cutZ 10 rest
    · exact h.reads.cut (.inl (by omega)) hz
    · rw [hz, Bool.true_and] at hb
      exact h.reads.bad (.inl (by omega)) hz (row_ill h0 h1 hb)
end Go.Proofs.YtidonhndeohdlaaGreatDoor
