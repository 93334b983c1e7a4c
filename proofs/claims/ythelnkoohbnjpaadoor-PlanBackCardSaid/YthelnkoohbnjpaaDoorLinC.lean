/- A line of a word and numbers: plain; the contracts of plan.line and of the reference's row. -/
import Derived.Test.YthelnkoohbnjpaaDoorZTxt
import Derived.Test.YthelnkoohbnjpaaDoorTxtN
import Derived.Test.YthelnkoohbnjpaaDoorZBase
import Derived.Lib.ItoaLen
set_option linter.unusedVariables false
set_option linter.unusedSimpArgs false
namespace Tide
open Go
/-- a number as text, with its sign -/
def itoB (n : Int) : ByteArray := ⟨(Lib.itoa n).toArray⟩
/-- a word, and numbers behind it -/
def rowB (w : ByteArray) (l : List Int) : ByteArray := l.foldl (fun a n => a ++ (⟨#[32]⟩ ++ itoB n)) w
def lineB (w : ByteArray) (l : List Int) : ByteArray := rowB w l ++ ⟨#[10]⟩
theorem rowB_next {w : ByteArray} {l : List Int} {k : Nat} {n : Int} (h : l[k]? = some n) : rowB w (l.take (k + 1)) = rowB w (l.take k) ++ (⟨#[32]⟩ ++ itoB n) := by
  unfold rowB
  rw [List.take_add_one, h, List.foldl_append]; rfl
theorem itoB_size {n : Int} (h : -9223372036854775808 ≤ n ∧ n ≤ 9223372036854775807) : (itoB n).size ≤ 21 := by
  rw [ba_size]
  show (Lib.itoa n).length ≤ 21
  exact Lib.itoa_length_le n h.1 h.2
theorem rowB_size {w : ByteArray} : ∀ {l : List Int}, (∀ x ∈ l, -9223372036854775808 ≤ x ∧ x ≤ 9223372036854775807) → (rowB w l).size ≤ w.size + 22 * l.length := by
  intro l
  induction l generalizing w with
  | nil => intro _; exact Nat.le_refl _
  | cons n l ih =>
    intro h
    have h1 := ih (w := w ++ (⟨#[32]⟩ ++ itoB n)) (fun x hx => h x (List.mem_cons_of_mem _ hx))
    have h2 := itoB_size (h n (by simp))
    show (rowB (w ++ (⟨#[32]⟩ ++ itoB n)) l).size ≤ _
    rw [ByteArray.size_append, ByteArray.size_append] at h1
    have h3 : (⟨#[32]⟩ : ByteArray).size = 1 := rfl
    rw [List.length_cons]
    omega
theorem lineB_size {w : ByteArray} {l : List Int} (h : ∀ x ∈ l, -9223372036854775808 ≤ x ∧ x ≤ 9223372036854775807) : (lineB w l).size ≤ w.size + 22 * l.length + 1 := by
  unfold lineB
  rw [ByteArray.size_append]
  have h3 : (⟨#[10]⟩ : ByteArray).size = 1 := rfl
  have := rowB_size (w := w) h
  omega
end Tide
namespace Go.Proofs.YthelnkoohbnjpaaDoor
open Go.RowKit
set_option linter.unusedVariables false
abbrev PowTab (w : World) : Prop := Lib.TabIs Tryd.prog w "internal/strconv.uint64pow10" .u64 Lib.pow10Tab
theorem PowTab.below {w w' : World} (h : PowTab w) (hb : Below w.heap.size w w') : PowTab w' := by
  have hgn : Tryd.prog.globalNamed "internal/strconv.uint64pow10" = some 1 := by kernel_rfl
  unfold PowTab Lib.TabIs World.var? at h ⊢
  rw [hgn] at h ⊢
  simp only [Option.bind_some] at h ⊢
  have hlt : 1 < w.heap.size := by
    rcases Nat.lt_or_ge 1 w.heap.size with h' | h'
    · exact h'
    · rw [Array.getElem?_eq_none h'] at h; cases h
  rw [hb.block _ hlt]
  exact h
theorem below_grow (w : World) (k : Nat) (os : Array Obj) : Below w.heap.size w (Go.Sort.grow (w.drewN k) os) :=
  ⟨rfl, rfl, rfl, by show _ ≤ (w.heap ++ os).size; rw [Array.size_append]; exact Nat.le_add_right _ _, fun g hg => by show (w.heap ++ os)[g]? = w.heap[g]?; rw [Array.getElem?_append_left hg]⟩
def IntW (n : Int) : Prop := -9223372036854775808 ≤ n ∧ n ≤ 9223372036854775807
def LinPost (t : ByteArray) (w : World) (e : Ending) (w' : World) : Prop := e = .returned (.string t) ∧ Below w.heap.size w w'
theorem itoaAny (n : Int) (hn : IntW n) (w : World) (ht : PowTab w) : Calls Tryd.prog 34 #[.int .i64 n] w (LinPost (Tide.itoB n) w) :=
  (Tryd.strconv_Itoa n hn.1 hn.2 w ht).mono fun e w' ⟨he, k, os, hw⟩ => ⟨he, hw ▸ below_grow w k os⟩
structure LinS (w W : World) (b : Nat) (l : List Int) : Prop where
  tab : PowTab W
  row : Tide.At W b 3 (l.map (Value.int .i64)).toArray
  below : Below w.heap.size w W
theorem LinS.next {w W W' : World} {b : Nat} {l : List Int} (h : LinS w W b l) (hb : Below W.heap.size W W') : LinS w W' b l :=
  ⟨h.tab.below hb, h.row.below hb h.row.inside, h.below.trans (hb.mono h.below.size)⟩
set_option maxRecDepth 100000 in
set_option maxHeartbeats 1600000 in
theorem planLine (word : ByteArray) (l : List Int) (n : Nat) (hn : l.length = n) (hl : n ≤ 4) (hr : ∀ x ∈ l, IntW x) (hw : word.size ≤ 1000) (b cap : Nat) (w : World) (hb : Tide.At w b 3 (l.map (Value.int .i64)).toArray) (ht : PowTab w) :
    Calls Tryd.prog 43 #[.string word, .slice (some ⟨b, 0, none⟩) n cap] w (LinPost (Tide.lineB word l) w) := by
  have HS := Lib.hid (show LinS w w b l from ⟨ht, hb, Below.refl _ _⟩)
  have HR := Lib.hid hr
  have HN := Lib.hid hn
  have HW := Lib.hid (show word = Tide.rowB word (l.take 0) from rfl)
  have HZ := Lib.hid (fun k (hk : k ≤ 4) => (show (Tide.rowB word (l.take k)).size ≤ 1088 from Nat.le_trans (Tide.rowB_size (fun x hx => hr x (List.mem_of_mem_take hx))) (by rw [List.length_take]; omega)))
  have hl' : (n : Int) ≤ 4 := by omega
  clear hr hb ht hn hw
  go_enter Tryd.func43, Tryd.ntmps43
  go_wp2_with fail
  go_loopw [9, 0] (fun x y wr => ∃ k : Nat, k ≤ n ∧ x = .int .i64 k ∧ y = .string (Tide.rowB word (l.take k)) ∧ Hid (LinS w wr b l)) (fun x _ _ => n - (intOf x).toNat)
  case atStart => exact ⟨0, by omega, rfl, by rw [← HW.out], HS⟩
  case round =>
    clear HS
    obtain ⟨k, hk, rfl, rfl, HS⟩ := hrel
    have i0 : (0 : Int) ≤ (k : Int) := by omega
    by_cases hlt : k < n
    · have i1 : (k : Int) < (n : Int) := by omega
      obtain ⟨x, hx⟩ : ∃ x, l[k]? = some x := ⟨l[k]'(by rw [HN.out]; exact hlt), List.getElem?_eq_getElem _⟩
      have HX := Lib.hid hx
      have HNx := Lib.hid (Tide.rowB_next (w := word) hx)
      have x0 : wr.cell? ⟨b, k, none⟩ = some (.int .i64 x) := HS.out.row.here (by simp [hx])
      have HI := Lib.hid (itoaAny x (HR.out x (List.mem_of_getElem? hx)) wr HS.out.tab)
      have HK := Lib.hid hlt
      have hy := HZ.out k (by omega)
      have hone : (⟨#[32]⟩ : ByteArray).size = 1 := rfl
      have hit := Tide.itoB_size (HR.out x (List.mem_of_getElem? hx))
      have hz1 : (⟨#[32]⟩ : ByteArray).size + (Tide.itoB x).size ≤ 9223372036854775807 := by omega
      clear hk hx
      generalize Tide.rowB word (l.take k) = Y at HNx hy ⊢
      have hz2 : Y.size + (⟨#[32]⟩ ++ Tide.itoB x).size ≤ 9223372036854775807 := by rw [ByteArray.size_append]; omega
      clear hy hone hit
      go_wp2_with fail
      refine HI.out.mono ?_
      rintro e w1 ⟨rfl, hb1⟩
      have HS1 := Lib.hid (HS.out.next hb1)
      clear hb1 HS x0
      go_wp2_with fail
      go_round
      case rel => exact ⟨k + 1, by have := HK.out; omega, by go_num, by rw [HNx.out], HS1⟩
      case measure => have := HK.out; simp [intOf]; omega
    · obtain rfl : k = n := by omega
      have HF := Lib.hid (show Tide.lineB word l = Tide.rowB word (l.take k) ++ ⟨#[10]⟩ by rw [List.take_of_length_le (by rw [HN.out]; exact Nat.le_refl _)]; rfl)
      have hone : (⟨#[10]⟩ : ByteArray).size = 1 := rfl
      have hy := HZ.out k (by omega)
      have hz : (Tide.rowB word (l.take k)).size + (⟨#[10]⟩ : ByteArray).size ≤ 9223372036854775807 := by omega
      clear hone hy
      go_wp2_with fail
      go_ret
      exact ⟨by rw [HF.out] <;> rfl, HS.out.below⟩
set_option maxRecDepth 100000 in
set_option maxHeartbeats 1600000 in
theorem refRow (word : ByteArray) (l : List Int) (n : Nat) (hn : l.length = n) (hl : n ≤ 4) (hr : ∀ x ∈ l, IntW x) (hw : word.size ≤ 1000) (b cap : Nat) (w : World) (hb : Tide.At w b 3 (l.map (Value.int .i64)).toArray) (ht : PowTab w) :
    Calls Tryd.prog 42 #[.string word, .slice (some ⟨b, 0, none⟩) n cap] w (LinPost (Tide.lineB word l) w) := by
  have HS := Lib.hid (show LinS w w b l from ⟨ht, hb, Below.refl _ _⟩)
  have HR := Lib.hid hr
  have HN := Lib.hid hn
  have HW := Lib.hid (show word = Tide.rowB word (l.take 0) from rfl)
  have HZ := Lib.hid (fun k (hk : k ≤ 4) => (show (Tide.rowB word (l.take k)).size ≤ 1088 from Nat.le_trans (Tide.rowB_size (fun x hx => hr x (List.mem_of_mem_take hx))) (by rw [List.length_take]; omega)))
  have hl' : (n : Int) ≤ 4 := by omega
  clear hr hb ht hn hw
  go_enter Tryd.func42, Tryd.ntmps42
  go_wp2_with fail
  go_loopw [5, 0] (fun x y wr => ∃ k : Nat, k ≤ n ∧ x = .int .i64 k ∧ y = .string (Tide.rowB word (l.take k)) ∧ Hid (LinS w wr b l)) (fun x _ _ => n - (intOf x).toNat)
  case atStart => exact ⟨0, by omega, rfl, by rw [← HW.out], HS⟩
  case round =>
    clear HS
    obtain ⟨k, hk, rfl, rfl, HS⟩ := hrel
    have i0 : (0 : Int) ≤ (k : Int) := by omega
    by_cases hlt : k < n
    · have i1 : (k : Int) < (n : Int) := by omega
      obtain ⟨x, hx⟩ : ∃ x, l[k]? = some x := ⟨l[k]'(by rw [HN.out]; exact hlt), List.getElem?_eq_getElem _⟩
      have HX := Lib.hid hx
      have HNx := Lib.hid (Tide.rowB_next (w := word) hx)
      have x0 : wr.cell? ⟨b, k, none⟩ = some (.int .i64 x) := HS.out.row.here (by simp [hx])
      have HI := Lib.hid (itoaAny x (HR.out x (List.mem_of_getElem? hx)) wr HS.out.tab)
      have HK := Lib.hid hlt
      have hy := HZ.out k (by omega)
      have hone : (⟨#[32]⟩ : ByteArray).size = 1 := rfl
      have hit := Tide.itoB_size (HR.out x (List.mem_of_getElem? hx))
      have hz1 : (⟨#[32]⟩ : ByteArray).size + (Tide.itoB x).size ≤ 9223372036854775807 := by omega
      clear hk hx
      generalize Tide.rowB word (l.take k) = Y at HNx hy ⊢
      have hz2 : Y.size + (⟨#[32]⟩ ++ Tide.itoB x).size ≤ 9223372036854775807 := by rw [ByteArray.size_append]; omega
      clear hy hone hit
      go_wp2_with fail
      refine HI.out.mono ?_
      rintro e w1 ⟨rfl, hb1⟩
      have HS1 := Lib.hid (HS.out.next hb1)
      clear hb1 HS x0
      go_wp2_with fail
      go_round
      case rel => exact ⟨k + 1, by have := HK.out; omega, by go_num, by rw [HNx.out], HS1⟩
      case measure => have := HK.out; simp [intOf]; omega
    · obtain rfl : k = n := by omega
      have HF := Lib.hid (show Tide.lineB word l = Tide.rowB word (l.take k) ++ ⟨#[10]⟩ by rw [List.take_of_length_le (by rw [HN.out]; exact Nat.le_refl _)]; rfl)
      have hone : (⟨#[10]⟩ : ByteArray).size = 1 := rfl
      have hy := HZ.out k (by omega)
      have hz : (Tide.rowB word (l.take k)).size + (⟨#[10]⟩ : ByteArray).size ≤ 9223372036854775807 := by omega
      clear hone hy
      go_wp2_with fail
      go_ret
      exact ⟨by rw [HF.out] <;> rfl, HS.out.below⟩
end Go.Proofs.YthelnkoohbnjpaaDoor
