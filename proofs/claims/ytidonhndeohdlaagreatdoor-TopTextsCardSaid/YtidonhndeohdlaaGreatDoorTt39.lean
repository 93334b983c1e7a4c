/- The walk of PlanBack. -/
import Derived.Deep.MidRow
import Derived.Laws.Rows
import Derived.Deep.RegionHeld3
import Derived.Test.YtidonhndeohdlaaGreatDoorTt24
import Derived.Test.YtidonhndeohdlaaGreatDoorTtPpnC
import Derived.Test.YtidonhndeohdlaaGreatDoorTtPrdY
import Derived.Test.YtidonhndeohdlaaGreatDoorTt11
import Derived.Test.YtidonhndeohdlaaGreatDoorTt00
set_option linter.unusedVariables false
set_option linter.unusedSimpArgs false
namespace Go.Proofs.YtidonhndeohdlaaGreatDoor
open Go.RowKit
theorem pb_set {w : World} {g : Nat} {t : TypeId} {old : Array Value} (h : Tide.At w g t old) (cs : Array Value) : Tide.At (w.setRow g cs) g t cs := setRow_heap w g old cs t (0, 0) h
theorem pb_row {B : Nat} {a w : World} (h : Below B a w) {g : Nat} (hg : B ≤ g) (cs : Array Value) : Below B a (w.setRow g cs) :=
  ⟨h.os, h.tape, h.output, by rw [setRow_size]; exact h.size, fun k hk => (setRow_other w g k cs (by omega)).trans (h.block k hk)⟩
theorem printV (p : Pln) (A : Option Addr) (cap : Nat) (w : World) (ht : Tide.ListIn w 17 Trg.enc (.slice A p.trigs.length cap) p.trigs) (hf : ∀ t ∈ p.trigs, t.fits) (hn : p.name.size ≤ 9223372036854775807) (hl : p.trigs.length ≤ 9223372036854775807) (hT : PowTab w) :
    Calls Tryz.prog 5 #[.agg (plnC p (.slice A p.trigs.length cap))] w (PrnPost p w) := by
  obtain ⟨name, mn, mx, poll, cool, tol, back, after, shift, ⟨u0, u1, u2, u3⟩, ⟨d0, d1, d2, d3⟩, ts⟩ := p
  exact planPrint name mn mx poll cool tol back after shift u0 u1 u2 u3 d0 d1 d2 d3 A cap ts w ht hf hn hl hT
structure PbS (w0 W : World) (m : Int) (g : Nat) (p : Pln) (A : Option Addr) (cap : Nat) : Prop where
  at_ : Tide.At W g 26 (plnC p (.slice A p.trigs.length cap))
  row : Tide.ListIn W 17 Trg.enc (.slice A p.trigs.length cap) p.trigs
  tab : PowTab W
  mx : W.cell? ⟨1, 0, none⟩ = some (.int .i64 m)
  mb : 1 < w0.heap.size
  below : Below w0.heap.size w0 W
theorem PbS.next {w0 W W' : World} {m : Int} {g : Nat} {p : Pln} {A : Option Addr} {cap : Nat} (h : PbS w0 W m g p A cap) (hb : Below W.heap.size W W') : PbS w0 W' m g p A cap :=
  ⟨h.at_.below hb h.at_.inside, h.row.below hb (Nat.le_refl _), h.tab.below hb, (hb.cell (p := ⟨1, 0, none⟩) (Nat.lt_of_lt_of_le h.mb h.below.size)).trans h.mx, h.mb, h.below.trans (hb.mono h.below.size)⟩
theorem made_row (w : World) (p : Pln) (v : Value) : Tide.At ((w.alloc (.cells #[.string ⟨#[]⟩, .int .i64 0, .int .i64 0, .int .i64 0, .int .i64 0, .int .i64 0, .int .i64 0, .int .i64 0, .int .i64 0, .int .i64 0, .int .i64 0, .int .i64 0, .int .i64 0, .int .i64 0, .int .i64 0, .int .i64 0, .int .i64 0, .slice none 0 0] 26)).setRow w.heap.size (plnC p v)) w.heap.size 26 (plnC p v) ∧ Below w.heap.size w ((w.alloc (.cells #[.string ⟨#[]⟩, .int .i64 0, .int .i64 0, .int .i64 0, .int .i64 0, .int .i64 0, .int .i64 0, .int .i64 0, .int .i64 0, .int .i64 0, .int .i64 0, .int .i64 0, .int .i64 0, .int .i64 0, .int .i64 0, .int .i64 0, .int .i64 0, .slice none 0 0] 26)).setRow w.heap.size (plnC p v)) :=
  ⟨pb_set (Tide.At.made w 26 (plnC zeroP (.slice none 0 0))) _, pb_row ((Below.refl w.heap.size w).alloc (Nat.le_refl _) _) (Nat.le_refl _) _⟩
theorem parseForm (s : ByteArray) (m : Int) (w : World) (R : Pln × Nat × Int) (hR : readR s = R) (hm : w.cell? ⟨1, 0, none⟩ = some (.int .i64 m)) (hs : s.size ≤ 9223372036854775807) :
    Calls Tryz.prog 6 #[.string s] w fun e w' => ∃ (A : Option Addr) (cap : Nat), e = .returned (.tuple #[.agg (plnC R.1 (.slice A R.1.trigs.length cap)), .int .i64 (R.2.1 : Int), .int .i64 R.2.2]) ∧ Tide.ListIn w' 17 Trg.enc (.slice A R.1.trigs.length cap) R.1.trigs ∧ Below w.heap.size w w' := by
  subst hR
  refine (planParse s m w hm hs).mono ?_
  rintro e w' ⟨v, he, hl, hb⟩
  obtain ⟨A, cap, rfl, hA⟩ := id hl
  exact ⟨A, cap, he, hl, hb⟩
theorem text_max {p : Pln} (h : planE p = 0) : p.text.size ≤ 30000 := by rw [← Pln.up2_all]; exact Pln.up2_size (planE_fine h) _
end Go.Proofs.YtidonhndeohdlaaGreatDoor
