/- What the walks of a plan's text hold: the plan in its block, the table, the triggers; a row of four numbers, of two. -/
import Derived.Test.YthelnkoohbnjpaaDoorPtxM
set_option linter.unusedVariables false
set_option linter.unusedSimpArgs false
namespace Go.Proofs.YthelnkoohbnjpaaDoor
open Go.RowKit
set_option linter.unusedVariables false
structure PnS (w0 W : World) (g : Nat) (cs : Array Value) (A : Option Addr) (cap : Nat) (ts : List Trg) : Prop where
  at_ : Tide.At W g 42 cs
  tab : PowTab W
  row : Tide.ListIn W 17 Trg.enc (.slice A ts.length cap) ts
  below : Below w0.heap.size w0 W
section
variable {w0 W W' : World} {g : Nat} {cs : Array Value} {A : Option Addr} {cap : Nat} {ts : List Trg}
theorem PnS.next (h : PnS w0 W g cs A cap ts) (hb : Below W.heap.size W W') : PnS w0 W' g cs A cap ts :=
  ⟨h.at_.below hb h.at_.inside, h.tab.below hb, h.row.below hb (Nat.le_refl _), h.below.trans (hb.mono h.below.size)⟩
theorem PnS.alloc (h : PnS w0 W g cs A cap ts) (o : Obj) : PnS w0 (W.alloc o) g cs A cap ts := h.next ((Below.refl _ _).alloc (Nat.le_refl _) o)
theorem PnS.drew (h : PnS w0 W g cs A cap ts) : PnS w0 W.drew g cs A cap ts := ⟨h.at_.drew, h.tab, h.row, h.below.drew⟩
end
theorem at_made' (w : World) (t : TypeId) (cs : Array Value) (n : Nat) (hn : n = w.heap.size) : Tide.At (w.alloc (.cells cs t)) n t cs := hn ▸ Tide.At.made w t cs
theorem at_next {w w' : World} {g : Nat} {t : TypeId} {cs : Array Value} (hb : Below w.heap.size w w') (h : Tide.At w g t cs) : Tide.At w' g t cs := h.below hb h.inside
def PrnPost (p : Pln) (w : World) (e : Ending) (w' : World) : Prop := e = .returned (.tuple #[.string (if planE p = 0 then p.text else ⟨#[]⟩), .int .i64 (planE p)]) ∧ Below w.heap.size w w'
structure RowF (t word : ByteArray) (a b c d : Int) : Prop where
  hi : ∀ x ∈ [a, b, c, d], IntW x
  hw : word.size ≤ 1000
  e : t = Tide.lineB word [a, b, c, d]
structure DuoF (t word : ByteArray) (a b : Int) : Prop where
  hi : ∀ x ∈ [a, b], IntW x
  hw : word.size ≤ 1000
  e : t = Tide.lineB word [a, b]
theorem line4 {w0 W : World} {g : Nat} {cs : Array Value} {A : Option Addr} {cap : Nat} {ts : List Trg} (t word : ByteArray) (a b c d : Int) {k : Nat} (hb : Tide.At W k 3 #[.int .i64 a, .int .i64 b, .int .i64 c, .int .i64 d]) (hs : PnS w0 W g cs A cap ts) (hr : RowF t word a b c d) : Calls Tryd.prog 43 #[.string word, .slice (some ⟨k, 0, none⟩) 4 4] W fun e w' => e = .returned (.string t) ∧ Below W.heap.size W w' ∧ PnS w0 w' g cs A cap ts := by
  rw [hr.e]; exact (planLine word [a, b, c, d] 4 rfl (by decide) hr.hi hr.hw k 4 W hb hs.tab).mono fun _ w' ⟨he, hb⟩ => ⟨he, hb, hs.next hb⟩
theorem line2 {w0 W : World} {g : Nat} {cs : Array Value} {A : Option Addr} {cap : Nat} {ts : List Trg} (t word : ByteArray) (a b : Int) {k : Nat} (hb : Tide.At W k 3 #[.int .i64 a, .int .i64 b]) (hs : PnS w0 W g cs A cap ts) (hr : DuoF t word a b) : Calls Tryd.prog 43 #[.string word, .slice (some ⟨k, 0, none⟩) 2 2] W fun e w' => e = .returned (.string t) ∧ Below W.heap.size W w' ∧ PnS w0 w' g cs A cap ts := by
  rw [hr.e]; exact (planLine word [a, b] 2 rfl (by decide) hr.hi hr.hw k 2 W hb hs.tab).mono fun _ w' ⟨he, hb⟩ => ⟨he, hb, hs.next hb⟩
theorem row4 {w0 W : World} {g : Nat} {cs : Array Value} {A : Option Addr} {cap : Nat} {ts : List Trg} (t word : ByteArray) (a b c d : Int) {k : Nat} (hb : Tide.At W k 3 #[.int .i64 a, .int .i64 b, .int .i64 c, .int .i64 d]) (hs : PnS w0 W g cs A cap ts) (hr : RowF t word a b c d) : Calls Tryd.prog 42 #[.string word, .slice (some ⟨k, 0, none⟩) 4 4] W fun e w' => e = .returned (.string t) ∧ Below W.heap.size W w' ∧ PnS w0 w' g cs A cap ts := by
  rw [hr.e]; exact (refRow word [a, b, c, d] 4 rfl (by decide) hr.hi hr.hw k 4 W hb hs.tab).mono fun _ w' ⟨he, hb⟩ => ⟨he, hb, hs.next hb⟩
theorem row2 {w0 W : World} {g : Nat} {cs : Array Value} {A : Option Addr} {cap : Nat} {ts : List Trg} (t word : ByteArray) (a b : Int) {k : Nat} (hb : Tide.At W k 3 #[.int .i64 a, .int .i64 b]) (hs : PnS w0 W g cs A cap ts) (hr : DuoF t word a b) : Calls Tryd.prog 42 #[.string word, .slice (some ⟨k, 0, none⟩) 2 2] W fun e w' => e = .returned (.string t) ∧ Below W.heap.size W w' ∧ PnS w0 w' g cs A cap ts := by
  rw [hr.e]; exact (refRow word [a, b] 2 rfl (by decide) hr.hi hr.hw k 2 W hb hs.tab).mono fun _ w' ⟨he, hb⟩ => ⟨he, hb, hs.next hb⟩
theorem sayItoa {w0 W : World} {g : Nat} {cs : Array Value} {A : Option Addr} {cap : Nat} {ts : List Trg} (n : Int) (hn : IntW n) (hs : PnS w0 W g cs A cap ts) : Calls Tryd.prog 34 #[.int .i64 n] W fun e w' => e = .returned (.string (Tide.itoB n)) ∧ Below W.heap.size W w' ∧ PnS w0 w' g cs A cap ts :=
  (itoaAny n hn W hs.tab).mono fun _ w' ⟨he, hb⟩ => ⟨he, hb, hs.next hb⟩
end Go.Proofs.YthelnkoohbnjpaaDoor
