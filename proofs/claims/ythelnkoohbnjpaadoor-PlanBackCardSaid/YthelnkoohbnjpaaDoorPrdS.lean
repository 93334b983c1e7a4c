/- The contract of (*reader).row. -/
import Derived.Test.YthelnkoohbnjpaaDoorPrdR
set_option linter.unusedVariables false
set_option linter.unusedSimpArgs false
namespace Go.Proofs.YthelnkoohbnjpaaDoor
open Go.RowKit
set_option linter.unusedVariables false
/-- behind a row: the reader, and what was read into -/
def RowPost (word : ByteArray) (w : World) (g : Nat) (s : ByteArray) (at_ : Int) (gp : Nat) (T : TypeId) (cs : Array Value) (os : List Nat) (e : Ending) (w' : World) : Prop :=
  e = .returned (.bool (Tide.cutZ 10 s && rowOk word (wordsOf s))) ∧ Tide.At w' g 91 #[.string (Tide.cutY 10 s), .int .i64 (at_ + 1)] ∧ (∃ k, k ≤ 4 ∧ Tide.At w' gp T (setK cs os ((wordsOf s).drop 1) k) ∧ ((Tide.cutZ 10 s && rowOk word (wordsOf s)) = true → k = 4)) ∧ Tide.Chg (fun b => b = g ∨ b = gp) w w'
theorem words_len (s : ByteArray) (hs : s.size ≤ 1000000) : 1 ≤ (wordsOf s).length ∧ (wordsOf s).length ≤ 1000001 ∧ ∀ x ∈ wordsOf s, x.size ≤ 1000000 := by
  have h1 := Tide.cutX_size 10 s
  refine ⟨Tide.piecesB_pos 32 _, ?_, fun x hx => ?_⟩
  · have := Tide.piecesB_few 32 (Tide.cutX 10 s)
    show (Tide.piecesB 32 (Tide.cutX 10 s)).length ≤ _
    omega
  · have := Tide.piecesB_le (show x ∈ Tide.piecesB 32 (Tide.cutX 10 s) from hx); omega
set_option maxRecDepth 100000 in
set_option maxHeartbeats 3200000 in
theorem readerRow (word : ByteArray) (g : Nat) (s : ByteArray) (at_ m : Int) (gp bt capt : Nat) (T : TypeId) (cs : Array Value) (os : List Nat) (w : World) (h : Tide.At w g 91 #[.string s, .int .i64 at_]) (hs : s.size ≤ 1000000) (a0 : 0 ≤ at_) (a1 : at_ ≤ 1000000) (hm : w.cell? ⟨0, 0, none⟩ = some (.int .i64 m)) (hgm : 0 ≠ g)
    (hp : Tide.At w bt 113 (ptrs gp os)) (hg : Tide.At w gp T cs) (hos : os.length = 4) (ho : ∀ o ∈ os, o < cs.size) (n1 : gp ≠ g) (n2 : bt ≠ g) (n3 : bt ≠ gp) :
    Calls Tryd.prog 64 #[.pointer (some ⟨g, 0, none⟩), .string word, .slice (some ⟨bt, 0, none⟩) 4 capt] w (RowPost word w g s at_ gp T cs os) := by
  obtain ⟨l0, l1, l2⟩ := words_len s hs
  have HW := Lib.hid l2
  have HLn := Lib.hid (readerLine g s at_ m w h hs a0 a1 hm hgm)
  have HGp := Lib.hid hg
  have HPt := Lib.hid hp
  have hgl := hg.inside
  have HRd0 := Lib.hid (fun (bw : Nat) (W : World) (hb : w.heap.size ≤ bw) (hl1 : (wordsOf s).length = 1) (hw : WdsAt W bw 0 (wordsOf s)) (hc : Tide.Chg (fun b => b = g) w W) => (by
    have e : (wordsOf s).drop 1 = [] := List.drop_eq_nil_of_le (by omega)
    rw [e]
    have := planRead [] os bw 0 0 bt capt gp T cs W (hw.take 0) (hp.chg hc n2) (hg.chg hc n1) ho (by omega) n3 (fun x hx => by cases hx) (by omega) (by simp)
    rw [hos] at this
    exact this : Calls Tryd.prog 63 #[.slice (some ⟨bw, 0, none⟩) 0 0, .slice (some ⟨bt, 0, none⟩) 4 capt] W (NumsPost W gp T cs os ((wordsOf s).drop 1))))
  have HRd := Lib.hid (fun (bw : Nat) (W : World) (hb : w.heap.size ≤ bw) (hw : WdsAt W bw 0 (wordsOf s)) (hc : Tide.Chg (fun b => b = g) w W) => (by
    have := planRead ((wordsOf s).drop 1) os bw 1 ((wordsOf s).length - 1) bt capt gp T cs W (by have := hw.drop 1; rwa [Nat.zero_add] at this) (hp.chg hc n2) (hg.chg hc n1) ho (by omega) n3 (fun x hx => l2 x (List.mem_of_mem_drop hx)) (by omega) (by rw [List.length_drop]; omega)
    rw [List.length_drop, hos] at this
    exact this : Calls Tryd.prog 63 #[.slice (some ⟨bw, 1, none⟩) ((wordsOf s).length - 1) ((wordsOf s).length - 1), .slice (some ⟨bt, 0, none⟩) 4 capt] W (NumsPost W gp T cs os ((wordsOf s).drop 1))))
  obtain ⟨x, hx⟩ := Tide.get_some (wordsOf s) (show 0 < (wordsOf s).length by omega)
  have hpx := Tide.pieceAt_get hx
  have HX := Lib.hid hx
  have HRow := Lib.hid (show rowOk word (wordsOf s) = (decide (x = word) && wordsOk ((wordsOf s).drop 1) 4) by unfold rowOk; rw [hpx])
  have HFin := Lib.hid (fun (b : Bool) (k : Nat) (W : World) (hb : (Tide.cutZ 10 s && rowOk word (wordsOf s)) = b) (hk : k ≤ 4) (h1 : Tide.At W g 91 #[.string (Tide.cutY 10 s), .int .i64 (at_ + 1)]) (h2 : Tide.At W gp T (setK cs os ((wordsOf s).drop 1) k)) (h3 : b = true → k = 4) (h4 : Tide.Chg (fun b => b = g ∨ b = gp) w W) =>
    (show RowPost word w g s at_ gp T cs os (.returned (.bool b)) W from ⟨by rw [hb], h1, ⟨k, hk, h2, fun h => h3 (hb.symm.trans h)⟩, h4⟩))
  have HOs := Lib.hid hos
  clear h hs a0 a1 hm hgm hp hg hos ho n2 l2 hx hpx
  obtain ⟨n, hn⟩ : ∃ n, (wordsOf s).length = n := ⟨_, rfl⟩
  unfold LinePost at HLn
  rw [hn] at HRd HRd0 HLn l0 l1
  have i0 : (1 : Int) ≤ (n : Int) := by omega
  have i1 : (n : Int) ≤ 1000001 := by omega
  have i2 : (0 : Int) < (n : Int) := by omega
  clear hn
  go_enter Tryd.func64, Tryd.ntmps64
  go_wp2_with fail
  refine HLn.out.mono ?_
  rintro e w1 ⟨bw, rfl, hw1, hbw, hr1, hc1⟩
  have c0 : w1.cell? ⟨bw, 0, none⟩ = some (.string x) := hw1.cell 0 x HX.out
  have HR := Lib.hid (HRd.out bw w1 hbw hw1 hc1)
  have HR0 := Lib.hid (fun h => HRd0.out bw w1 hbw h hw1 hc1)
  have HRr := Lib.hid hr1
  have HC1 := Lib.hid (hc1.mono (fun b _ hb => (Or.inl hb : b = g ∨ b = gp)))
  have HG1 := Lib.hid (HGp.out.chg hc1 n1)
  clear hw1 hbw hr1 hc1 HLn HRd HRd0 HGp HPt
  cases hz : Tide.cutZ 10 s
  · have HF := Lib.hid (HFin.out false 0 w1 (by rw [hz]; rfl) (by omega) HRr.out HG1.out (by simp) HC1.out)
    clear HR HR0 hz
    go_wp2_with fail
    go_ret
    exact HF.out
  · by_cases hxw : x = word
    · have e1 : (x.toList == word.toList) = true := by rw [same_words]; exact decide_eq_true hxw
      have HFin2 := Lib.hid (fun (b : Bool) (k : Nat) (W : World) (hb : wordsOk ((wordsOf s).drop 1) 4 = b) (hk : k ≤ 4) h1 h2 h3 h4 => HFin.out b k W (by rw [hz, HRow.out, decide_eq_true hxw]; exact hb) hk h1 h2 h3 h4)
      clear hz hxw HFin
      by_cases hn1 : n = 1
      · subst hn1
        have HRz := Lib.hid (HR0.out rfl)
        clear l0 l1 i0 i1 i2
        go_wp2_with fail
        refine HRz.out.mono ?_
        rintro e w2 ⟨rfl, ⟨k, hk, hat, hkk⟩, hc2⟩
        rw [HOs.out] at hk hkk ⊢
        have HF := Lib.hid (HFin2.out _ k w2 rfl hk (HRr.out.chg hc2 (fun e => n1 e.symm)) hat hkk (HC1.out.trans (hc2.mono fun b _ hb => Or.inr hb)))
        clear hk hat hkk hc2 HR HR0
        generalize wordsOk ((wordsOf s).drop 1) 4 = q at HF ⊢
        cases q
        · go_wp2_with fail
          go_ret
          exact HF.out
        · go_wp2_with fail
          go_ret
          exact HF.out
      · have i4 : (1 : Int) < (n : Int) := by omega
        have i5 : 1 < n := by omega
        clear hn1 l0 l1 HR0
        have HR0 := i5
        go_wp2_with fail
        refine HR.out.mono ?_
        rintro e w2 ⟨rfl, ⟨k, hk, hat, hkk⟩, hc2⟩
        rw [HOs.out] at hk hkk ⊢
        have HF := Lib.hid (HFin2.out _ k w2 rfl hk (HRr.out.chg hc2 (fun e => n1 e.symm)) hat hkk (HC1.out.trans (hc2.mono fun b _ hb => Or.inr hb)))
        clear hk hat hkk hc2 HR HR0
        generalize wordsOk ((wordsOf s).drop 1) 4 = q at HF ⊢
        cases q
        · go_wp2_with fail
          go_ret
          exact HF.out
        · go_wp2_with fail
          go_ret
          exact HF.out
    · have e1 : (x.toList == word.toList) = false := by rw [same_words]; exact decide_eq_false hxw
      have HF := Lib.hid (HFin.out false 0 w1 (by rw [HRow.out, decide_eq_false hxw]; simp) (by omega) HRr.out HG1.out (by simp) HC1.out)
      clear HR HR0 hz hxw
      go_wp2_with fail
      go_ret
      exact HF.out
end Go.Proofs.YthelnkoohbnjpaaDoor
