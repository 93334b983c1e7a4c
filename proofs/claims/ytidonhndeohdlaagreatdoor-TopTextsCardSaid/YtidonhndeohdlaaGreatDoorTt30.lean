/- A line of a trigger: the reader, the plan, its triggers; the contract of (*reader).trigger. -/
import Derived.Deep.CutBlock
import Derived.Test.YtidonhndeohdlaaGreatDoorTtPrdT
import Derived.Test.YtidonhndeohdlaaGreatDoorTt15
import Derived.Test.YtidonhndeohdlaaGreatDoorTt00
set_option linter.unusedVariables false
set_option linter.unusedSimpArgs false
namespace Go.Proofs.YtidonhndeohdlaaGreatDoor
open Go.RowKit
structure TrS (w0 W : World) (R : Option Pln × Nat) (m : Int) (g gp : Nat) (v : Value) (i : Nat) (p : Pln) (rest : ByteArray) : Prop where
  reads : Reads i p rest R
  plan : Tide.At W gp 26 (plnC p v)
  own : Tide.OwnRow (fun b => w0.heap.size ≤ b ∧ b ≠ g ∧ b ≠ gp) W 65 17 v p.trigs.length (p.trigs.flatMap Trg.enc)
  rd : Tide.At W g 70 #[.string rest, .int .i64 (i : Int)]
  mx : W.cell? ⟨1, 0, none⟩ = some (.int .i64 m)
  mb : 1 < w0.heap.size
  below : Below w0.heap.size w0 W
  size : i + rest.size ≤ 3000
  many : p.trigs.length ≤ i
  fits : ∀ t ∈ p.trigs, t.fits
  ne : gp ≠ g
  og : w0.heap.size ≤ g ∧ w0.heap.size ≤ gp
def BadT (w0 W : World) (R : Option Pln × Nat) (g : Nat) : Prop := ∃ (k : Nat) (rest : ByteArray), R = (none, k) ∧ Tide.At W g 70 #[.string rest, .int .i64 (k : Int)] ∧ Below w0.heap.size w0 W
def TrigPost (w0 : World) (R : Option Pln × Nat) (m : Int) (g gp : Nat) (i : Nat) (sz : Nat) (e : Ending) (W' : World) : Prop :=
  ∃ b, e = .returned (.bool b) ∧ (b = true → ∃ p rest v, TrS w0 W' R m g gp v (i + 1) p rest ∧ rest.size < sz) ∧ (b = false → BadT w0 W' R g)
structure TrgMid (W wx : World) (gt : Nat) (ok : Bool) (ws : List ByteArray) : Prop where
  at_ : ∃ t, Tide.At wx gt 65 (trgA t) ∧ (ok = true → trigN ws = some t)
  chg : Tide.Chg (fun b => b = gt) W wx
theorem TrgMid.below {W wx wy : World} {gt : Nat} {ok : Bool} {ws : List ByteArray} (h : TrgMid W wx gt ok ws) (hb : Below wx.heap.size wx wy) : TrgMid W wy gt ok ws := by
  obtain ⟨t, h1, h2⟩ := h.at_
  exact ⟨⟨t, h1.below hb h1.inside, h2⟩, h.chg.step_below hb h.chg.size⟩
theorem line_more {i : Nat} {p : Pln} {ws : List ByteArray} (h : 4 ≤ i) : lineN i p ws = (trigN ws).map fun t => { p with trigs := p.trigs ++ [t] } := by
  obtain ⟨j, rfl⟩ : ∃ j, i = j + 4 := ⟨i - 4, by omega⟩
  rfl
theorem trig_lag {ws : List ByteArray} (h : Tide.pieceAt ws 0 = wdLag) : trigN ws = twoN 1 ws := if_pos h
theorem trig_depth {ws : List ByteArray} (h : Tide.pieceAt ws 0 = wdDepth) : trigN ws = twoN 2 ws := by unfold trigN; rw [h, if_neg (by decide), if_pos rfl]
theorem trig_span {ws : List ByteArray} (h : Tide.pieceAt ws 0 = wdSpan) : trigN ws = timedN ws := by unfold trigN; rw [h, if_neg (by decide), if_neg (by decide), if_pos rfl]
theorem trig_else {ws : List ByteArray} (h1 : Tide.pieceAt ws 0 ≠ wdLag) (h2 : Tide.pieceAt ws 0 ≠ wdDepth) (h3 : Tide.pieceAt ws 0 ≠ wdSpan) : trigN ws = none := by unfold trigN; rw [if_neg h1, if_neg h2, if_neg h3]
theorem two_cells (kind : Int) (ws : List ByteArray) (k : Nat) (hk : k ≤ 2) : ∃ t, setK (trgA ⟨kind, 0, 0, crZ, crZ⟩) [1, 2] (ws.drop 1) k = trgA t ∧ (k = 2 → t = ⟨kind, wV (Tide.pieceAt ws 1), wV (Tide.pieceAt ws 2), crZ, crZ⟩) := by
  have e : ∀ i, Tide.pieceAt (ws.drop 1) i = Tide.pieceAt ws (1 + i) := fun i => by
    unfold Tide.pieceAt
    rw [List.getD_eq_getElem?_getD, List.getD_eq_getElem?_getD, List.getElem?_drop]
  rcases (show k = 0 ∨ k = 1 ∨ k = 2 by omega) with rfl | rfl | rfl
  · exact ⟨_, rfl, by simp⟩
  · refine ⟨⟨kind, wV (Tide.pieceAt ws 1), 0, crZ, crZ⟩, ?_, by simp⟩
    simp only [setK, e]; rfl
  · refine ⟨_, ?_, fun _ => rfl⟩
    simp only [setK, e]; rfl
theorem readTwo (kind : Int) (ws : List ByteArray) (bw gt : Nat) (W W' : World) (bt capt : Nat) (n : Nat) (hn : ws.length = n) (hw : WdsAt W' bw 0 ws) (hg : Tide.At W' gt 65 (trgA ⟨kind, 0, 0, crZ, crZ⟩)) (hp : Tide.At W' bt 114 (ptrs gt [1, 2])) (hc : Tide.Chg (fun b => b = gt) W W') (n1 : bw ≠ gt) (n3 : bt ≠ gt) (hs : ∀ x ∈ ws, x.size ≤ 1000000) (h0 : 1 ≤ n) (hl : n ≤ 1000001) (off : Nat) (hoff : (n = 1 ∧ off = 0) ∨ (1 < n ∧ off = 1)) :
    Calls Tryz.prog 54 #[.slice (some ⟨bw, off, none⟩) (n - 1) (n - 1), .slice (some ⟨bt, 0, none⟩) 2 capt] W' fun e w' => e = .returned (.bool (twoN kind ws).isSome) ∧ (∃ t, Tide.At w' gt 65 (trgA t) ∧ ((twoN kind ws).isSome = true → twoN kind ws = some t)) ∧ Tide.Chg (fun b => b = gt) W w' := by
  have hsome : (twoN kind ws).isSome = wordsOk (ws.drop 1) 2 := by unfold twoN; cases wordsOk (ws.drop 1) 2 <;> rfl
  have hcall : Calls Tryz.prog 54 #[.slice (some ⟨bw, off, none⟩) (n - 1) (n - 1), .slice (some ⟨bt, 0, none⟩) 2 capt] W' (NumsPost W' gt 65 (trgA ⟨kind, 0, 0, crZ, crZ⟩) [1, 2] (ws.drop 1)) := by
    have hd : WdsAt W' bw off (ws.drop 1) := by
      rcases hoff with ⟨h1, rfl⟩ | ⟨h1, rfl⟩
      · rw [List.drop_eq_nil_of_le (by omega)]; exact hw.take 0
      · have := hw.drop 1; rwa [Nat.zero_add] at this
    have h9 := planRead (ws.drop 1) [1, 2] bw off (n - 1) bt capt gt 65 (trgA ⟨kind, 0, 0, crZ, crZ⟩) W' hd hp hg (by intro o ho; show o < 17; revert o; decide) n1 n3 (fun x hx => hs x (List.mem_of_mem_drop hx)) (by decide) (by rw [List.length_drop]; omega)
    rw [List.length_drop, hn] at h9
    exact h9
  refine hcall.mono ?_
  rintro e w' ⟨he, ⟨k, hk, hat, hkk⟩, hc2⟩
  obtain ⟨t, ht, ht2⟩ := two_cells kind ws k hk
  rw [ht] at hat
  refine ⟨by rw [he, hsome]; rfl, ⟨t, hat, fun h => ?_⟩, hc.trans hc2⟩
  rw [hsome] at h
  rw [ht2 (hkk h)]
  exact if_pos h
theorem word_ne {x : ByteArray} {y : ByteArray} {l : List UInt8} (hy : y.toList = l) (h : x ≠ y) : (x.toList == l) = false := by
  have := same_words x y
  rw [decide_eq_false h, hy] at this
  exact this
theorem word_eq {x : ByteArray} {y : ByteArray} {l : List UInt8} (hy : y.toList = l) (h : x = y) : (x.toList == l) = true := by rw [h, hy]; simp
end Go.Proofs.YtidonhndeohdlaaGreatDoor
