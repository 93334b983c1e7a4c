/- The text of a plan: plain. -/
import Derived.Test.YthelnkoohbnjpaaDoorLinC
import Derived.Test.YthelnkoohbnjpaaDoorPrtP
import Derived.Test.YthelnkoohbnjpaaDoorZPln
set_option linter.unusedVariables false
set_option linter.unusedSimpArgs false
namespace Go.Proofs.YthelnkoohbnjpaaDoor
open Go.RowKit
set_option linter.unusedVariables false
def spanTxt (n : Int) (a b : ByteArray) : ByteArray := (((((⟨#[115, 112, 97, 110, 32]⟩ : ByteArray) ++ Tide.itoB n ++ ⟨#[32]⟩) ++ a) ++ ⟨#[32, 47, 32]⟩) ++ b) ++ ⟨#[10]⟩
def lagB : ByteArray := ⟨#[108, 97, 103]⟩
def depthB : ByteArray := ⟨#[100, 101, 112, 116, 104]⟩
def Trg.text (t : Trg) : ByteArray :=
  if t.kind = 1 then Tide.lineB ⟨#[108, 97, 103]⟩ [t.target, t.act]
  else if t.kind = 2 then Tide.lineB ⟨#[100, 101, 112, 116, 104]⟩ [t.target, t.act]
  else spanTxt t.target t.a.text t.b.text
def Pln.row0 (p : Pln) : ByteArray := Tide.lineB ((⟨#[112, 108, 97, 110, 32]⟩ : ByteArray) ++ p.name) [p.mn, p.mx, p.poll, p.cool]
def Pln.row1 (p : Pln) : ByteArray := Tide.lineB ⟨#[114, 101, 115, 116]⟩ [p.tol, p.back, p.after, p.shift]
def Pln.row2 (p : Pln) : ByteArray := Tide.lineB ⟨#[117, 112]⟩ [p.up.win, p.up.pods, p.up.pct, p.up.per]
def Pln.row3 (p : Pln) : ByteArray := Tide.lineB ⟨#[100, 111, 119, 110]⟩ [p.down.win, p.down.pods, p.down.pct, p.down.per]
/-- the text of all but the triggers; of that, and k triggers; of all -/
def Pln.top (p : Pln) : ByteArray := ((p.row0 ++ p.row1) ++ p.row2) ++ p.row3
def Pln.up2 (p : Pln) (k : Nat) : ByteArray := (p.trigs.take k).foldl (fun a t => a ++ t.text) p.top
def Pln.text (p : Pln) : ByteArray := p.trigs.foldl (fun a t => a ++ t.text) p.top
theorem Pln.up2_next {p : Pln} {k : Nat} {t : Trg} (h : p.trigs[k]? = some t) : p.up2 (k + 1) = p.up2 k ++ t.text := by
  unfold Pln.up2
  rw [List.take_add_one, h, List.foldl_append]; rfl
theorem Pln.up2_all {p : Pln} : p.up2 p.trigs.length = p.text := by unfold Pln.up2 Pln.text; rw [List.take_length]
structure Pln.fine (p : Pln) : Prop where
  name : p.name.size ≤ 16
  i0 : ∀ x ∈ [p.mn, p.mx, p.poll, p.cool], IntW x
  i1 : ∀ x ∈ [p.tol, p.back, p.after, p.shift], IntW x
  i2 : ∀ x ∈ [p.up.win, p.up.pods, p.up.pct, p.up.per], IntW x
  i3 : ∀ x ∈ [p.down.win, p.down.pods, p.down.pct, p.down.per], IntW x
  few : p.trigs.length ≤ 5
  each : ∀ t ∈ p.trigs, trigE t = 0
theorem four_in {a b c d lo hi : Int} {P : Int → Prop} (ha : P a) (hb : P b) (hc : P c) (hd : P d) : ∀ x ∈ [a, b, c, d], P x := by
  intro x hx
  simp only [List.mem_cons, List.not_mem_nil, or_false] at hx
  rcases hx with rfl | rfl | rfl | rfl <;> assumption
theorem IntW.of {n lo hi : Int} (h : wiB n lo hi = true) (h0 : -9223372036854775808 ≤ lo) (h1 : hi ≤ 9223372036854775807) : IntW n := by
  rw [wiB_iff] at h
  exact ⟨by omega, by omega⟩
theorem planE_fine {p : Pln} (h : planE p = 0) : p.fine := by
  unfold planE at h
  split at h
  · cases h
  · split at h
    · cases h
    · split at h
      · cases h
      · rename_i h1 h2 h3
        have h1' : nameOk p.name = true := by simpa using h1
        have h3' : p.nums = true := by simpa using h3
        unfold nameOk at h1'
        unfold Pln.nums paceOk at h3'
        simp only [Bool.and_eq_true] at h1' h3'
        obtain ⟨a, b, c, d, e, f, g, i, ⟨u1, u2, u3, u4⟩, ⟨d1, d2, d3, d4⟩⟩ := h3'
        have hn := wiB_iff.1 h1'.2
        have hb : IntW p.mx := by have := wiB_iff.1 b; exact ⟨by omega, by omega⟩
        refine ⟨by omega, ?_, ?_, ?_, ?_, by omega, trigsE_mem h⟩
        · exact four_in (lo := 0) (hi := 0) (.of a (by decide) (by decide)) hb (.of c (by decide) (by decide)) (.of d (by decide) (by decide))
        · exact four_in (lo := 0) (hi := 0) (.of e (by decide) (by decide)) (.of f (by decide) (by decide)) (.of g (by decide) (by decide)) (.of i (by decide) (by decide))
        · exact four_in (lo := 0) (hi := 0) (.of u1 (by decide) (by decide)) (.of u2 (by decide) (by decide)) (.of u3 (by decide) (by decide)) (.of u4 (by decide) (by decide))
        · exact four_in (lo := 0) (hi := 0) (.of d1 (by decide) (by decide)) (.of d2 (by decide) (by decide)) (.of d3 (by decide) (by decide)) (.of d4 (by decide) (by decide))
theorem trigE_cases {t : Trg} (h : trigE t = 0) : ((t.kind = 1 ∨ t.kind = 2) ∧ IntW t.target ∧ IntW t.act) ∨ (t.kind = 3 ∧ IntW t.target ∧ t.a.err = 0 ∧ t.b.err = 0) := by
  unfold trigE at h
  split at h
  · rename_i hk
    split at h
    · rename_i h1
      simp only [Bool.and_eq_true] at h1
      exact .inl ⟨hk, .of h1.1 (by decide) (by decide), .of h1.2.1 (by decide) (by decide)⟩
    · cases h
  · split at h
    · rename_i hk
      split at h
      · rename_i h1
        simp only [Bool.and_eq_true] at h1
        refine .inr ⟨hk, .of h1.1 (by decide) (by decide), ?_⟩
        unfold spanE at h
        unfold Cr.err at h ⊢
        revert h
        cases t.a.ok <;> cases t.b.ok <;> simp
      · cases h
    · cases h
theorem Cr.text_size (c : Cr) : c.text.size ≤ 2005 := by
  have h := Tide.joinB_size 32 (c.txts_size 5)
  rw [c.txts_len] at h
  exact h
theorem spanTxt_size {n : Int} (hn : IntW n) {a b : ByteArray} (ha : a.size ≤ 2005) (hb : b.size ≤ 2005) : (spanTxt n a b).size ≤ 4050 := by
  have h1 := Tide.itoB_size hn
  have e1 : (⟨#[115, 112, 97, 110, 32]⟩ : ByteArray).size = 5 := rfl
  have e2 : (⟨#[32]⟩ : ByteArray).size = 1 := rfl
  have e3 : (⟨#[32, 47, 32]⟩ : ByteArray).size = 3 := rfl
  have e4 : (⟨#[10]⟩ : ByteArray).size = 1 := rfl
  unfold spanTxt
  simp only [ByteArray.size_append]
  omega
theorem two_in {a b : Int} {P : Int → Prop} (ha : P a) (hb : P b) : ∀ x ∈ [a, b], P x := by
  intro x hx
  simp only [List.mem_cons, List.not_mem_nil, or_false] at hx
  rcases hx with rfl | rfl <;> assumption
theorem Trg.text_size {t : Trg} (h : trigE t = 0) : t.text.size ≤ 4050 := by
  unfold Trg.text
  rcases trigE_cases h with ⟨hk, h1, h2⟩ | ⟨hk, h1, _⟩
  · have l1 := Tide.lineB_size (w := ⟨#[108, 97, 103]⟩) (two_in h1 h2)
    have l2 := Tide.lineB_size (w := ⟨#[100, 101, 112, 116, 104]⟩) (two_in h1 h2)
    have e1 : (⟨#[108, 97, 103]⟩ : ByteArray).size = 3 := rfl
    have e2 : (⟨#[100, 101, 112, 116, 104]⟩ : ByteArray).size = 5 := rfl
    have e3 : [t.target, t.act].length = 2 := rfl
    split
    · omega
    · rw [if_pos (by omega)]; omega
  · rw [if_neg (by omega), if_neg (by omega)]
    exact spanTxt_size h1 t.a.text_size t.b.text_size
theorem row_size {w : ByteArray} {a b c d : Int} (h : ∀ x ∈ [a, b, c, d], IntW x) (hw : w.size ≤ 21) : (Tide.lineB w [a, b, c, d]).size ≤ 110 := by
  have := Tide.lineB_size (w := w) h
  have e3 : [a, b, c, d].length = 4 := rfl
  omega
theorem Pln.word_size {p : Pln} (h : p.fine) : ((⟨#[112, 108, 97, 110, 32]⟩ : ByteArray) ++ p.name).size ≤ 21 := by
  rw [ByteArray.size_append]
  have e1 : (⟨#[112, 108, 97, 110, 32]⟩ : ByteArray).size = 5 := rfl
  have := h.name
  omega
theorem Pln.row0_size {p : Pln} (h : p.fine) : p.row0.size ≤ 110 := row_size h.i0 (Pln.word_size h)
theorem Pln.row1_size {p : Pln} (h : p.fine) : p.row1.size ≤ 110 := row_size h.i1 (by decide)
theorem Pln.row2_size {p : Pln} (h : p.fine) : p.row2.size ≤ 110 := row_size h.i2 (by decide)
theorem Pln.row3_size {p : Pln} (h : p.fine) : p.row3.size ≤ 110 := row_size h.i3 (by decide)
theorem Pln.top_size {p : Pln} (h : p.fine) : p.top.size ≤ 440 := by
  have := row0_size h; have := row1_size h; have := row2_size h; have := row3_size h
  unfold Pln.top
  simp only [ByteArray.size_append]
  omega
theorem fold_size {l : List Trg} {w : ByteArray} (h : ∀ t ∈ l, trigE t = 0) : (l.foldl (fun a t => a ++ t.text) w).size ≤ w.size + 4050 * l.length := by
  induction l generalizing w with
  | nil => exact Nat.le_refl _
  | cons t l ih =>
    have h1 := ih (w := w ++ t.text) (fun x hx => h x (List.mem_cons_of_mem _ hx))
    have h2 := Trg.text_size (h t (by simp))
    rw [ByteArray.size_append] at h1
    show (l.foldl (fun a t => a ++ t.text) (w ++ t.text)).size ≤ _
    rw [List.length_cons]
    omega
theorem Pln.up2_size {p : Pln} (h : p.fine) (k : Nat) : (p.up2 k).size ≤ 30000 := by
  have h1 := fold_size (l := p.trigs.take k) (w := p.top) (fun t ht => h.each t (List.mem_of_mem_take ht))
  have h2 := top_size h
  have h3 := h.few
  rw [List.length_take] at h1
  unfold Pln.up2
  have : min k p.trigs.length ≤ 5 := by omega
  omega
end Go.Proofs.YthelnkoohbnjpaaDoor
