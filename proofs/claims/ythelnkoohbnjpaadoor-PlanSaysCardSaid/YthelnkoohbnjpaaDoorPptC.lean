/- The contract of the reference's PlanText. -/
import Derived.Test.YthelnkoohbnjpaaDoorPpnM
import Derived.Test.YthelnkoohbnjpaaDoorRdtC
import Derived.RegionTactic
import Derived.Deep.RegionHeld3
set_option linter.unusedVariables false
set_option linter.unusedSimpArgs false
namespace Go.Proofs.YthelnkoohbnjpaaDoor
open Go.RowKit
set_option linter.unusedVariables false
structure TrS (w0 W : World) (g : Nat) (cs : Array Value) (A : Option Addr) (cap : Nat) (ts : List Trg) (g2 : Nat) (tc : Array Value) : Prop where
  one : PnS w0 W g cs A cap ts
  two : Tide.At W g2 82 tc
section
variable {w0 W W' : World} {g : Nat} {cs : Array Value} {A : Option Addr} {cap : Nat} {ts : List Trg} {g2 : Nat} {tc : Array Value}
theorem TrS.next (h : TrS w0 W g cs A cap ts g2 tc) (hb : Below W.heap.size W W') : TrS w0 W' g cs A cap ts g2 tc := ⟨h.one.next hb, h.two.below hb h.two.inside⟩
theorem TrS.alloc (h : TrS w0 W g cs A cap ts g2 tc) (o : Obj) : TrS w0 (W.alloc o) g cs A cap ts g2 tc := ⟨h.one.alloc o, h.two.alloc o⟩
theorem TrS.drew (h : TrS w0 W g cs A cap ts g2 tc) : TrS w0 W.drew g cs A cap ts g2 tc := ⟨h.one.drew, h.two.drew⟩
theorem trItoa (n : Int) (hn : IntW n) (hs : TrS w0 W g cs A cap ts g2 tc) : Calls Tryd.prog 34 #[.int .i64 n] W fun e w' => e = .returned (.string (Tide.itoB n)) ∧ TrS w0 w' g cs A cap ts g2 tc :=
  (itoaAny n hn W hs.one.tab).mono fun _ w' ⟨he, hb⟩ => ⟨he, hs.next hb⟩
theorem trText (c : Cr) (t : ByteArray) (hf : c.fits) (he : c.err = 0) (ht : c.text = t) (hs : TrS w0 W g cs A cap ts g2 tc) : Calls Tryd.prog 12 #[.agg c.cells] W fun e w' => e = .returned (.string t) ∧ TrS w0 w' g cs A cap ts g2 tc :=
  (refCronText c hf he W).mono fun _ w' ⟨he, hb⟩ => ⟨ht ▸ he, hs.next hb⟩
theorem trRow (t word : ByteArray) (a b : Int) {k : Nat} (hb : Tide.At W k 3 #[.int .i64 a, .int .i64 b]) (hs : TrS w0 W g cs A cap ts g2 tc) (hr : DuoF t word a b) : Calls Tryd.prog 42 #[.string word, .slice (some ⟨k, 0, none⟩) 2 2] W fun e w' => e = .returned (.string t) ∧ TrS w0 w' g cs A cap ts g2 tc :=
  (row2 t word a b hb hs.one hr).mono fun _ w' ⟨he, hb, _⟩ => ⟨he, hs.next hb⟩
end
theorem trKeep {w W : World} {g : Nat} {cs : Array Value} {A : Option Addr} {cap : Nat} {ts : List Trg} {g2 : Nat} {kind target act : Int} {ai ah ad am aw bi bh bd bm bw : Nat} {aa ab ba bb : Bool} (h : TrS w W g cs A cap ts g2 #[.int .i64 kind, .int .i64 target, .int .i64 act, .int .u64 (ai : Int), .int .u64 (ah : Int), .int .u64 (ad : Int), .int .u64 (am : Int), .int .u64 (aw : Int), .bool aa, .bool ab, .int .u64 (bi : Int), .int .u64 (bh : Int), .int .u64 (bd : Int), .int .u64 (bm : Int), .int .u64 (bw : Int), .bool ba, .bool bb]) : W.cell? ⟨g2, 0, none⟩ = some (.int .i64 kind) ∧ W.cell? ⟨g2, 1, none⟩ = some (.int .i64 target) ∧ W.cell? ⟨g2, 2, none⟩ = some (.int .i64 act) ∧ W.cell? ⟨g2, 3, none⟩ = some (.int .u64 (ai : Int)) ∧ W.cell? ⟨g2, 4, none⟩ = some (.int .u64 (ah : Int)) ∧ W.cell? ⟨g2, 5, none⟩ = some (.int .u64 (ad : Int)) ∧ W.cell? ⟨g2, 6, none⟩ = some (.int .u64 (am : Int)) ∧ W.cell? ⟨g2, 7, none⟩ = some (.int .u64 (aw : Int)) ∧ W.cell? ⟨g2, 8, none⟩ = some (.bool aa) ∧ W.cell? ⟨g2, 9, none⟩ = some (.bool ab) ∧ W.cell? ⟨g2, 10, none⟩ = some (.int .u64 (bi : Int)) ∧ W.cell? ⟨g2, 11, none⟩ = some (.int .u64 (bh : Int)) ∧ W.cell? ⟨g2, 12, none⟩ = some (.int .u64 (bd : Int)) ∧ W.cell? ⟨g2, 13, none⟩ = some (.int .u64 (bm : Int)) ∧ W.cell? ⟨g2, 14, none⟩ = some (.int .u64 (bw : Int)) ∧ W.cell? ⟨g2, 15, none⟩ = some (.bool ba) ∧ W.cell? ⟨g2, 16, none⟩ = some (.bool bb) ∧ TrS w W g cs A cap ts g2 #[.int .i64 kind, .int .i64 target, .int .i64 act, .int .u64 (ai : Int), .int .u64 (ah : Int), .int .u64 (ad : Int), .int .u64 (am : Int), .int .u64 (aw : Int), .bool aa, .bool ab, .int .u64 (bi : Int), .int .u64 (bh : Int), .int .u64 (bd : Int), .int .u64 (bm : Int), .int .u64 (bw : Int), .bool ba, .bool bb] := ⟨h.two.here rfl, h.two.here rfl, h.two.here rfl, h.two.here rfl, h.two.here rfl, h.two.here rfl, h.two.here rfl, h.two.here rfl, h.two.here rfl, h.two.here rfl, h.two.here rfl, h.two.here rfl, h.two.here rfl, h.two.here rfl, h.two.here rfl, h.two.here rfl, h.two.here rfl, h⟩
set_option maxRecDepth 100000 in
set_option maxHeartbeats 12800000 in
theorem refPlanText (name : ByteArray) (mn mx poll cool tol back after shift u0 u1 u2 u3 d0 d1 d2 d3 : Int) (A : Option Addr) (cap : Nat) (ts : List Trg) (w : World) (ht : Tide.ListIn w 17 Trg.enc (.slice A ts.length cap) ts) (hf : ∀ t ∈ ts, t.fits) (hT : PowTab w) (p : Pln) (hp : (⟨name, mn, mx, poll, cool, tol, back, after, shift, ⟨u0, u1, u2, u3⟩, ⟨d0, d1, d2, d3⟩, ts⟩ : Pln) = p) (he : planE p = 0) :
    Calls Tryd.prog 18 #[.agg #[.string name, .int .i64 mn, .int .i64 mx, .int .i64 poll, .int .i64 cool, .int .i64 tol, .int .i64 back, .int .i64 after, .int .i64 shift, .int .i64 u0, .int .i64 u1, .int .i64 u2, .int .i64 u3, .int .i64 d0, .int .i64 d1, .int .i64 d2, .int .i64 d3, .slice A ts.length cap]] w (LinPost p.text w) := by
  have HS := Lib.hid (show PnS w (w.alloc (.cells #[.string name, .int .i64 mn, .int .i64 mx, .int .i64 poll, .int .i64 cool, .int .i64 tol, .int .i64 back, .int .i64 after, .int .i64 shift, .int .i64 u0, .int .i64 u1, .int .i64 u2, .int .i64 u3, .int .i64 d0, .int .i64 d1, .int .i64 d2, .int .i64 d3, .slice A ts.length cap] 42)) w.heap.size #[.string name, .int .i64 mn, .int .i64 mx, .int .i64 poll, .int .i64 cool, .int .i64 tol, .int .i64 back, .int .i64 after, .int .i64 shift, .int .i64 u0, .int .i64 u1, .int .i64 u2, .int .i64 u3, .int .i64 d0, .int .i64 d1, .int .i64 d2, .int .i64 d3, .slice A ts.length cap] A cap ts from
    have hb := (Below.refl w.heap.size w).alloc (Nat.le_refl _) (.cells #[.string name, .int .i64 mn, .int .i64 mx, .int .i64 poll, .int .i64 cool, .int .i64 tol, .int .i64 back, .int .i64 after, .int .i64 shift, .int .i64 u0, .int .i64 u1, .int .i64 u2, .int .i64 u3, .int .i64 d0, .int .i64 d1, .int .i64 d2, .int .i64 d3, .slice A ts.length cap] 42)
    ⟨Tide.At.made w 42 #[.string name, .int .i64 mn, .int .i64 mx, .int .i64 poll, .int .i64 cool, .int .i64 tol, .int .i64 back, .int .i64 after, .int .i64 shift, .int .i64 u0, .int .i64 u1, .int .i64 u2, .int .i64 u3, .int .i64 d0, .int .i64 d1, .int .i64 d2, .int .i64 d3, .slice A ts.length cap], hT.below hb, ht.below hb (Nat.le_refl _), hb⟩)
  have HF := Lib.hid hf; have HP := Lib.hid hp; have HFi := Lib.hid (planE_fine he)
  have hfew : (ts.length : Int) ≤ 5 := by have := HFi.out.few; rw [← HP.out] at this; exact Int.ofNat_le.2 this
  clear ht hT hf hp he
  have HR0 := Lib.hid (show RowF p.row0 ((⟨#[112, 108, 97, 110, 32]⟩ : ByteArray) ++ name) mn mx poll cool from ⟨by have := HFi.out.i0; rw [← HP.out] at this; exact this, by have := Pln.word_size HFi.out; rw [← HP.out] at this; exact Nat.le_trans this (by decide), by rw [← HP.out]; rfl⟩)
  have HR1 := Lib.hid (show RowF p.row1 ⟨#[114, 101, 115, 116]⟩ tol back after shift from ⟨by have := HFi.out.i1; rw [← HP.out] at this; exact this, by decide, by rw [← HP.out]; rfl⟩)
  have HR2 := Lib.hid (show RowF p.row2 ⟨#[117, 112]⟩ u0 u1 u2 u3 from ⟨by have := HFi.out.i2; rw [← HP.out] at this; exact this, by decide, by rw [← HP.out]; rfl⟩)
  have HR3 := Lib.hid (show RowF p.row3 ⟨#[100, 111, 119, 110]⟩ d0 d1 d2 d3 from ⟨by have := HFi.out.i3; rw [← HP.out] at this; exact this, by decide, by rw [← HP.out]; rfl⟩)
  have HNm := Lib.hid (show name.size ≤ 16 by have := HFi.out.name; rw [← HP.out] at this; exact this)
  have HTs := Lib.hid (show p.trigs = ts by rw [← HP.out])
  go_enter Tryd.func18, Tryd.ntmps18
  go_upto_region 1 with fail
  generalize w.alloc (.cells #[.string name, .int .i64 mn, .int .i64 mx, .int .i64 poll, .int .i64 cool, .int .i64 tol, .int .i64 back, .int .i64 after, .int .i64 shift, .int .i64 u0, .int .i64 u1, .int .i64 u2, .int .i64 u3, .int .i64 d0, .int .i64 d1, .int .i64 d2, .int .i64 d3, .slice A ts.length cap] 42) = W at HS ⊢
  generalize w.heap.size = g at HS ⊢
  have x0 : W.cell? ⟨g, 0, none⟩ = some (.string name) := HS.out.at_.here rfl
  have x1 : W.cell? ⟨g, 1, none⟩ = some (.int .i64 mn) := HS.out.at_.here rfl
  have x2 : W.cell? ⟨g, 2, none⟩ = some (.int .i64 mx) := HS.out.at_.here rfl
  have x3 : W.cell? ⟨g, 3, none⟩ = some (.int .i64 poll) := HS.out.at_.here rfl
  have x4 : W.cell? ⟨g, 4, none⟩ = some (.int .i64 cool) := HS.out.at_.here rfl
  have x5 : W.cell? ⟨g, 5, none⟩ = some (.int .i64 tol) := HS.out.at_.here rfl
  have x6 : W.cell? ⟨g, 6, none⟩ = some (.int .i64 back) := HS.out.at_.here rfl
  have x7 : W.cell? ⟨g, 7, none⟩ = some (.int .i64 after) := HS.out.at_.here rfl
  have x8 : W.cell? ⟨g, 8, none⟩ = some (.int .i64 shift) := HS.out.at_.here rfl
  have x9 : W.cell? ⟨g, 9, none⟩ = some (.int .i64 u0) := HS.out.at_.here rfl
  have x10 : W.cell? ⟨g, 10, none⟩ = some (.int .i64 u1) := HS.out.at_.here rfl
  have x11 : W.cell? ⟨g, 11, none⟩ = some (.int .i64 u2) := HS.out.at_.here rfl
  have x12 : W.cell? ⟨g, 12, none⟩ = some (.int .i64 u3) := HS.out.at_.here rfl
  have x13 : W.cell? ⟨g, 13, none⟩ = some (.int .i64 d0) := HS.out.at_.here rfl
  have x14 : W.cell? ⟨g, 14, none⟩ = some (.int .i64 d1) := HS.out.at_.here rfl
  have x15 : W.cell? ⟨g, 15, none⟩ = some (.int .i64 d2) := HS.out.at_.here rfl
  have x16 : W.cell? ⟨g, 16, none⟩ = some (.int .i64 d3) := HS.out.at_.here rfl
  have x17 : W.cell? ⟨g, 17, none⟩ = some (.slice A ts.length cap) := HS.out.at_.here rfl
  have hz0 : (⟨#[112, 108, 97, 110, 32]⟩ : ByteArray).size + name.size ≤ 9223372036854775807 := by have := HNm.out; have : (⟨#[112, 108, 97, 110, 32]⟩ : ByteArray).size = 5 := rfl; omega
  go_wp2_with fail
  refine (row4 (w0 := w) (g := g) (cs := #[.string name, .int .i64 mn, .int .i64 mx, .int .i64 poll, .int .i64 cool, .int .i64 tol, .int .i64 back, .int .i64 after, .int .i64 shift, .int .i64 u0, .int .i64 u1, .int .i64 u2, .int .i64 u3, .int .i64 d0, .int .i64 d1, .int .i64 d2, .int .i64 d3, .slice A ts.length cap]) (A := A) (cap := cap) (ts := ts) _ _ _ _ _ _ (at_made' _ _ _ _ (by simp)) (HS.out.alloc _) HR0.out).mono ?_
  rintro e w1 ⟨rfl, hb1, hS1⟩
  have HS1 := Lib.hid hS1
  clear hb1 hS1 HS x0 x1 x2 x3 x4 x5 x6 x7 x8 x9 x10 x11 x12 x13 x14 x15 x16 x17 hz0
  have x0 : w1.cell? ⟨g, 0, none⟩ = some (.string name) := HS1.out.at_.here rfl
  have x1 : w1.cell? ⟨g, 1, none⟩ = some (.int .i64 mn) := HS1.out.at_.here rfl
  have x2 : w1.cell? ⟨g, 2, none⟩ = some (.int .i64 mx) := HS1.out.at_.here rfl
  have x3 : w1.cell? ⟨g, 3, none⟩ = some (.int .i64 poll) := HS1.out.at_.here rfl
  have x4 : w1.cell? ⟨g, 4, none⟩ = some (.int .i64 cool) := HS1.out.at_.here rfl
  have x5 : w1.cell? ⟨g, 5, none⟩ = some (.int .i64 tol) := HS1.out.at_.here rfl
  have x6 : w1.cell? ⟨g, 6, none⟩ = some (.int .i64 back) := HS1.out.at_.here rfl
  have x7 : w1.cell? ⟨g, 7, none⟩ = some (.int .i64 after) := HS1.out.at_.here rfl
  have x8 : w1.cell? ⟨g, 8, none⟩ = some (.int .i64 shift) := HS1.out.at_.here rfl
  have x9 : w1.cell? ⟨g, 9, none⟩ = some (.int .i64 u0) := HS1.out.at_.here rfl
  have x10 : w1.cell? ⟨g, 10, none⟩ = some (.int .i64 u1) := HS1.out.at_.here rfl
  have x11 : w1.cell? ⟨g, 11, none⟩ = some (.int .i64 u2) := HS1.out.at_.here rfl
  have x12 : w1.cell? ⟨g, 12, none⟩ = some (.int .i64 u3) := HS1.out.at_.here rfl
  have x13 : w1.cell? ⟨g, 13, none⟩ = some (.int .i64 d0) := HS1.out.at_.here rfl
  have x14 : w1.cell? ⟨g, 14, none⟩ = some (.int .i64 d1) := HS1.out.at_.here rfl
  have x15 : w1.cell? ⟨g, 15, none⟩ = some (.int .i64 d2) := HS1.out.at_.here rfl
  have x16 : w1.cell? ⟨g, 16, none⟩ = some (.int .i64 d3) := HS1.out.at_.here rfl
  have x17 : w1.cell? ⟨g, 17, none⟩ = some (.slice A ts.length cap) := HS1.out.at_.here rfl
  have hz0 := HNm.out
  go_wp2_with fail
  refine (row4 (w0 := w) (g := g) (cs := #[.string name, .int .i64 mn, .int .i64 mx, .int .i64 poll, .int .i64 cool, .int .i64 tol, .int .i64 back, .int .i64 after, .int .i64 shift, .int .i64 u0, .int .i64 u1, .int .i64 u2, .int .i64 u3, .int .i64 d0, .int .i64 d1, .int .i64 d2, .int .i64 d3, .slice A ts.length cap]) (A := A) (cap := cap) (ts := ts) _ _ _ _ _ _ (at_made' _ _ _ _ (by simp)) (HS1.out.alloc _) HR1.out).mono ?_
  rintro e w2 ⟨rfl, hb2, hS2⟩
  have HS2 := Lib.hid hS2
  clear hb2 hS2 HS1 x0 x1 x2 x3 x4 x5 x6 x7 x8 x9 x10 x11 x12 x13 x14 x15 x16 x17 hz0
  have x0 : w2.cell? ⟨g, 0, none⟩ = some (.string name) := HS2.out.at_.here rfl
  have x1 : w2.cell? ⟨g, 1, none⟩ = some (.int .i64 mn) := HS2.out.at_.here rfl
  have x2 : w2.cell? ⟨g, 2, none⟩ = some (.int .i64 mx) := HS2.out.at_.here rfl
  have x3 : w2.cell? ⟨g, 3, none⟩ = some (.int .i64 poll) := HS2.out.at_.here rfl
  have x4 : w2.cell? ⟨g, 4, none⟩ = some (.int .i64 cool) := HS2.out.at_.here rfl
  have x5 : w2.cell? ⟨g, 5, none⟩ = some (.int .i64 tol) := HS2.out.at_.here rfl
  have x6 : w2.cell? ⟨g, 6, none⟩ = some (.int .i64 back) := HS2.out.at_.here rfl
  have x7 : w2.cell? ⟨g, 7, none⟩ = some (.int .i64 after) := HS2.out.at_.here rfl
  have x8 : w2.cell? ⟨g, 8, none⟩ = some (.int .i64 shift) := HS2.out.at_.here rfl
  have x9 : w2.cell? ⟨g, 9, none⟩ = some (.int .i64 u0) := HS2.out.at_.here rfl
  have x10 : w2.cell? ⟨g, 10, none⟩ = some (.int .i64 u1) := HS2.out.at_.here rfl
  have x11 : w2.cell? ⟨g, 11, none⟩ = some (.int .i64 u2) := HS2.out.at_.here rfl
  have x12 : w2.cell? ⟨g, 12, none⟩ = some (.int .i64 u3) := HS2.out.at_.here rfl
  have x13 : w2.cell? ⟨g, 13, none⟩ = some (.int .i64 d0) := HS2.out.at_.here rfl
  have x14 : w2.cell? ⟨g, 14, none⟩ = some (.int .i64 d1) := HS2.out.at_.here rfl
  have x15 : w2.cell? ⟨g, 15, none⟩ = some (.int .i64 d2) := HS2.out.at_.here rfl
  have x16 : w2.cell? ⟨g, 16, none⟩ = some (.int .i64 d3) := HS2.out.at_.here rfl
  have x17 : w2.cell? ⟨g, 17, none⟩ = some (.slice A ts.length cap) := HS2.out.at_.here rfl
  have hz0 : p.row0.size + p.row1.size ≤ 9223372036854775807 := by have := Pln.row0_size HFi.out; have := Pln.row1_size HFi.out; have := Pln.row2_size HFi.out; have := Pln.row3_size HFi.out; (try simp only [ByteArray.size_append]); omega
  go_wp2_with fail
  refine (row4 (w0 := w) (g := g) (cs := #[.string name, .int .i64 mn, .int .i64 mx, .int .i64 poll, .int .i64 cool, .int .i64 tol, .int .i64 back, .int .i64 after, .int .i64 shift, .int .i64 u0, .int .i64 u1, .int .i64 u2, .int .i64 u3, .int .i64 d0, .int .i64 d1, .int .i64 d2, .int .i64 d3, .slice A ts.length cap]) (A := A) (cap := cap) (ts := ts) _ _ _ _ _ _ (at_made' _ _ _ _ (by simp)) (HS2.out.alloc _) HR2.out).mono ?_
  rintro e w3 ⟨rfl, hb3, hS3⟩
  have HS3 := Lib.hid hS3
  clear hb3 hS3 HS2 x0 x1 x2 x3 x4 x5 x6 x7 x8 x9 x10 x11 x12 x13 x14 x15 x16 x17 hz0
  have x0 : w3.cell? ⟨g, 0, none⟩ = some (.string name) := HS3.out.at_.here rfl
  have x1 : w3.cell? ⟨g, 1, none⟩ = some (.int .i64 mn) := HS3.out.at_.here rfl
  have x2 : w3.cell? ⟨g, 2, none⟩ = some (.int .i64 mx) := HS3.out.at_.here rfl
  have x3 : w3.cell? ⟨g, 3, none⟩ = some (.int .i64 poll) := HS3.out.at_.here rfl
  have x4 : w3.cell? ⟨g, 4, none⟩ = some (.int .i64 cool) := HS3.out.at_.here rfl
  have x5 : w3.cell? ⟨g, 5, none⟩ = some (.int .i64 tol) := HS3.out.at_.here rfl
  have x6 : w3.cell? ⟨g, 6, none⟩ = some (.int .i64 back) := HS3.out.at_.here rfl
  have x7 : w3.cell? ⟨g, 7, none⟩ = some (.int .i64 after) := HS3.out.at_.here rfl
  have x8 : w3.cell? ⟨g, 8, none⟩ = some (.int .i64 shift) := HS3.out.at_.here rfl
  have x9 : w3.cell? ⟨g, 9, none⟩ = some (.int .i64 u0) := HS3.out.at_.here rfl
  have x10 : w3.cell? ⟨g, 10, none⟩ = some (.int .i64 u1) := HS3.out.at_.here rfl
  have x11 : w3.cell? ⟨g, 11, none⟩ = some (.int .i64 u2) := HS3.out.at_.here rfl
  have x12 : w3.cell? ⟨g, 12, none⟩ = some (.int .i64 u3) := HS3.out.at_.here rfl
  have x13 : w3.cell? ⟨g, 13, none⟩ = some (.int .i64 d0) := HS3.out.at_.here rfl
  have x14 : w3.cell? ⟨g, 14, none⟩ = some (.int .i64 d1) := HS3.out.at_.here rfl
  have x15 : w3.cell? ⟨g, 15, none⟩ = some (.int .i64 d2) := HS3.out.at_.here rfl
  have x16 : w3.cell? ⟨g, 16, none⟩ = some (.int .i64 d3) := HS3.out.at_.here rfl
  have x17 : w3.cell? ⟨g, 17, none⟩ = some (.slice A ts.length cap) := HS3.out.at_.here rfl
  have hz0 : (p.row0 ++ p.row1).size + p.row2.size ≤ 9223372036854775807 := by have := Pln.row0_size HFi.out; have := Pln.row1_size HFi.out; have := Pln.row2_size HFi.out; have := Pln.row3_size HFi.out; (try simp only [ByteArray.size_append]); omega
  go_wp2_with fail
  refine (row4 (w0 := w) (g := g) (cs := #[.string name, .int .i64 mn, .int .i64 mx, .int .i64 poll, .int .i64 cool, .int .i64 tol, .int .i64 back, .int .i64 after, .int .i64 shift, .int .i64 u0, .int .i64 u1, .int .i64 u2, .int .i64 u3, .int .i64 d0, .int .i64 d1, .int .i64 d2, .int .i64 d3, .slice A ts.length cap]) (A := A) (cap := cap) (ts := ts) _ _ _ _ _ _ (at_made' _ _ _ _ (by simp)) (HS3.out.alloc _) HR3.out).mono ?_
  rintro e w4 ⟨rfl, hb4, hS4⟩
  have HS4 := Lib.hid hS4
  clear hb4 hS4 HS3 x0 x1 x2 x3 x4 x5 x6 x7 x8 x9 x10 x11 x12 x13 x14 x15 x16 x17 hz0
  have hz0 : ((p.row0 ++ p.row1) ++ p.row2).size + p.row3.size ≤ 9223372036854775807 := by have := Pln.row0_size HFi.out; have := Pln.row1_size HFi.out; have := Pln.row2_size HFi.out; have := Pln.row3_size HFi.out; (try simp only [ByteArray.size_append]); omega
  have HTop := Lib.hid (show ((p.row0 ++ p.row1) ++ p.row2) ++ p.row3 = p.up2 0 from rfl)
  go_wp2_with fail
  rw [HTop.out]
  clear hz0
  go_loopw [3, 4] (fun x y wr => ∃ k : Nat, k ≤ ts.length ∧ x = .string (p.up2 k) ∧ y = .int .i64 k ∧ Hid (PnS w wr g #[.string name, .int .i64 mn, .int .i64 mx, .int .i64 poll, .int .i64 cool, .int .i64 tol, .int .i64 back, .int .i64 after, .int .i64 shift, .int .i64 u0, .int .i64 u1, .int .i64 u2, .int .i64 u3, .int .i64 d0, .int .i64 d1, .int .i64 d2, .int .i64 d3, .slice A ts.length cap] A cap ts)) (fun _ y _ => ts.length - (intOf y).toNat)
  case atStart => exact ⟨0, by omega, rfl, rfl, HS4⟩
  case round =>
    clear HS4
    obtain ⟨k, hk, rfl, rfl, HS⟩ := hrel
    have i0 : (0 : Int) ≤ (k : Int) := by omega
    have x17 : wr.cell? ⟨g, 17, none⟩ = some (.slice A ts.length cap) := HS.out.at_.here rfl
    by_cases hlt : k < ts.length
    · as_aux_lemma =>
      obtain ⟨t, htk⟩ := Tide.get_some ts hlt
      obtain ⟨A', cap', e, hc⟩ := HS.out.row
      cases e
      obtain ⟨b, off, rfl, hbl, hcl⟩ := hc (by omega)
      have HFk := Lib.hid (HF.out t (List.mem_of_getElem? htk))
      have HEk := Lib.hid (trigE_cases (HFi.out.each t (by rw [HTs.out]; exact List.mem_of_getElem? htk)))
      have HNx := Lib.hid (Pln.up2_next (p := p) (k := k) (t := t) (by rw [HTs.out]; exact htk))
      have HUp := Lib.hid (Pln.up2_size HFi.out k)
      have HTz := Lib.hid (Trg.text_size (HFi.out.each t (by rw [HTs.out]; exact List.mem_of_getElem? htk)))
      obtain ⟨kind, target, act, ⟨ai, ah, ad, am, aw, aa, ab⟩, ⟨bi, bh, bd, bm, bw, ba, bb⟩⟩ := t
      have c0 : wr.cell? ⟨b, off + k * 17, none⟩ = some (.int .i64 kind) := hcl k _ 0 _ htk rfl; have c1 : wr.cell? ⟨b, off + k * 17 + 1, none⟩ = some (.int .i64 target) := hcl k _ 1 _ htk rfl; have c2 : wr.cell? ⟨b, off + k * 17 + 2, none⟩ = some (.int .i64 act) := hcl k _ 2 _ htk rfl; have c3 : wr.cell? ⟨b, off + k * 17 + 3, none⟩ = some (.int .u64 (ai : Int)) := hcl k _ 3 _ htk rfl; have c4 : wr.cell? ⟨b, off + k * 17 + 4, none⟩ = some (.int .u64 (ah : Int)) := hcl k _ 4 _ htk rfl; have c5 : wr.cell? ⟨b, off + k * 17 + 5, none⟩ = some (.int .u64 (ad : Int)) := hcl k _ 5 _ htk rfl; have c6 : wr.cell? ⟨b, off + k * 17 + 6, none⟩ = some (.int .u64 (am : Int)) := hcl k _ 6 _ htk rfl; have c7 : wr.cell? ⟨b, off + k * 17 + 7, none⟩ = some (.int .u64 (aw : Int)) := hcl k _ 7 _ htk rfl; have c8 : wr.cell? ⟨b, off + k * 17 + 8, none⟩ = some (.bool aa) := hcl k _ 8 _ htk rfl; have c9 : wr.cell? ⟨b, off + k * 17 + 9, none⟩ = some (.bool ab) := hcl k _ 9 _ htk rfl; have c10 : wr.cell? ⟨b, off + k * 17 + 10, none⟩ = some (.int .u64 (bi : Int)) := hcl k _ 10 _ htk rfl; have c11 : wr.cell? ⟨b, off + k * 17 + 11, none⟩ = some (.int .u64 (bh : Int)) := hcl k _ 11 _ htk rfl; have c12 : wr.cell? ⟨b, off + k * 17 + 12, none⟩ = some (.int .u64 (bd : Int)) := hcl k _ 12 _ htk rfl; have c13 : wr.cell? ⟨b, off + k * 17 + 13, none⟩ = some (.int .u64 (bm : Int)) := hcl k _ 13 _ htk rfl; have c14 : wr.cell? ⟨b, off + k * 17 + 14, none⟩ = some (.int .u64 (bw : Int)) := hcl k _ 14 _ htk rfl; have c15 : wr.cell? ⟨b, off + k * 17 + 15, none⟩ = some (.bool ba) := hcl k _ 15 _ htk rfl; have c16 : wr.cell? ⟨b, off + k * 17 + 16, none⟩ = some (.bool bb) := hcl k _ 16 _ htk rfl
      have i1 : (k : Int) < (ts.length : Int) := by omega
      have HK := Lib.hid hlt
      clear hc hcl htk hk hlt
      go_upto_region 9 with fail
      have HT := Lib.hid (show TrS w (wr.alloc (.cells #[.int .i64 kind, .int .i64 target, .int .i64 act, .int .u64 (ai : Int), .int .u64 (ah : Int), .int .u64 (ad : Int), .int .u64 (am : Int), .int .u64 (aw : Int), .bool aa, .bool ab, .int .u64 (bi : Int), .int .u64 (bh : Int), .int .u64 (bd : Int), .int .u64 (bm : Int), .int .u64 (bw : Int), .bool ba, .bool bb] 82)) g #[.string name, .int .i64 mn, .int .i64 mx, .int .i64 poll, .int .i64 cool, .int .i64 tol, .int .i64 back, .int .i64 after, .int .i64 shift, .int .i64 u0, .int .i64 u1, .int .i64 u2, .int .i64 u3, .int .i64 d0, .int .i64 d1, .int .i64 d2, .int .i64 d3, .slice (some ⟨b, off, none⟩) ts.length cap] (some ⟨b, off, none⟩) cap ts wr.heap.size #[.int .i64 kind, .int .i64 target, .int .i64 act, .int .u64 (ai : Int), .int .u64 (ah : Int), .int .u64 (ad : Int), .int .u64 (am : Int), .int .u64 (aw : Int), .bool aa, .bool ab, .int .u64 (bi : Int), .int .u64 (bh : Int), .int .u64 (bd : Int), .int .u64 (bm : Int), .int .u64 (bw : Int), .bool ba, .bool bb] from ⟨HS.out.alloc _, Tide.At.made wr 82 #[.int .i64 kind, .int .i64 target, .int .i64 act, .int .u64 (ai : Int), .int .u64 (ah : Int), .int .u64 (ad : Int), .int .u64 (am : Int), .int .u64 (aw : Int), .bool aa, .bool ab, .int .u64 (bi : Int), .int .u64 (bh : Int), .int .u64 (bd : Int), .int .u64 (bm : Int), .int .u64 (bw : Int), .bool ba, .bool bb]⟩)
      generalize wr.alloc (.cells #[.int .i64 kind, .int .i64 target, .int .i64 act, .int .u64 (ai : Int), .int .u64 (ah : Int), .int .u64 (ad : Int), .int .u64 (am : Int), .int .u64 (aw : Int), .bool aa, .bool ab, .int .u64 (bi : Int), .int .u64 (bh : Int), .int .u64 (bd : Int), .int .u64 (bm : Int), .int .u64 (bw : Int), .bool ba, .bool bb] 82) = W2 at HT ⊢
      generalize wr.heap.size = g2 at HT ⊢
      clear c0 c1 c2 c3 c4 c5 c6 c7 c8 c9 c10 c11 c12 c13 c14 c15 c16 x17 HS
      have HRel := HNx.out
      obtain ⟨Y, HY⟩ : ∃ Y, Hid (p.up2 k = Y) := ⟨_, Lib.hid rfl⟩
      rw [HY.out] at HRel HUp ⊢
      have HNy := Lib.hid HRel
      clear HRel HNx
      by_cases k3 : kind = 3
      · as_aux_lemma =>
        subst k3
        have HE3 := Lib.hid (show IntW target ∧ Cr.err ⟨ai, ah, ad, am, aw, aa, ab⟩ = 0 ∧ Cr.err ⟨bi, bh, bd, bm, bw, ba, bb⟩ = 0 by rcases HEk.out with ⟨h, _⟩ | ⟨_, h⟩; (have h' : ((3 : Int) = 1 ∨ (3 : Int) = 2) := h; omega); exact h)
        obtain ⟨ta, HTa⟩ : ∃ ta, Hid (Cr.text ⟨ai, ah, ad, am, aw, aa, ab⟩ = ta) := ⟨_, Lib.hid rfl⟩
        obtain ⟨tb, HTb⟩ : ∃ tb, Hid (Cr.text ⟨bi, bh, bd, bm, bw, ba, bb⟩ = tb) := ⟨_, Lib.hid rfl⟩
        have HTx := Lib.hid (show Trg.text ⟨3, target, act, ⟨ai, ah, ad, am, aw, aa, ab⟩, ⟨bi, bh, bd, bm, bw, ba, bb⟩⟩ = spanTxt target ta tb by rw [← HTa.out, ← HTb.out]; rfl)
        have c0 : W2.cell? ⟨g2, 0, none⟩ = some (.int .i64 3) := HT.out.two.here rfl
        go_upto_region 10 with fail
        clear c0
        have HNz := Lib.hid (HNy.out.trans (congrArg (Y ++ ·) HTx.out))
        · have sa : ta.size ≤ 2005 := by rw [← HTa.out]; exact Cr.text_size _
          have sb : tb.size ≤ 2005 := by rw [← HTb.out]; exact Cr.text_size _
          have si := Tide.itoB_size HE3.out.1
          have sy := HUp.out
          have e1 : (⟨#[115, 112, 97, 110, 32]⟩ : ByteArray).size = 5 := rfl
          have e2 : (⟨#[32]⟩ : ByteArray).size = 1 := rfl
          have e3 : (⟨#[32, 47, 32]⟩ : ByteArray).size = 3 := rfl
          have e4 : (⟨#[10]⟩ : ByteArray).size = 1 := rfl
          have n0 : (5 : Int) + ((Tide.itoB target).size : Int) ≤ 9223372036854775807 := by omega
          have n1 : (5 : Int) + ((Tide.itoB target).size : Int) + 1 ≤ 9223372036854775807 := by omega
          have n2 : (5 : Int) + ((Tide.itoB target).size : Int) + 1 + (ta.size : Int) ≤ 9223372036854775807 := by omega
          have n3 : (5 : Int) + ((Tide.itoB target).size : Int) + 1 + (ta.size : Int) + 3 ≤ 9223372036854775807 := by omega
          have n4 : (5 : Int) + ((Tide.itoB target).size : Int) + 1 + (ta.size : Int) + 3 + (tb.size : Int) ≤ 9223372036854775807 := by omega
          have n5 : (5 : Int) + ((Tide.itoB target).size : Int) + 1 + (ta.size : Int) + 3 + (tb.size : Int) + 1 ≤ 9223372036854775807 := by omega
          have n6 : (Y.size : Int) + ((5 : Int) + ((Tide.itoB target).size : Int) + 1 + (ta.size : Int) + 3 + (tb.size : Int) + 1) ≤ 9223372036854775807 := by omega
          have q0 : 5 + (Tide.itoB target).size ≤ 9223372036854775807 := by omega
          have q1 : 5 + (Tide.itoB target).size + 1 ≤ 9223372036854775807 := by omega
          have q2 : 5 + (Tide.itoB target).size + 1 + ta.size ≤ 9223372036854775807 := by omega
          have q3 : 5 + (Tide.itoB target).size + 1 + ta.size + 3 ≤ 9223372036854775807 := by omega
          have q4 : 5 + (Tide.itoB target).size + 1 + ta.size + 3 + tb.size ≤ 9223372036854775807 := by omega
          have q5 : 5 + (Tide.itoB target).size + 1 + ta.size + 3 + tb.size + 1 ≤ 9223372036854775807 := by omega
          have q6 : Y.size + (5 + (Tide.itoB target).size + 1 + ta.size + 3 + tb.size + 1) ≤ 9223372036854775807 := by omega
          have m0 : ((⟨#[115, 112, 97, 110, 32]⟩ : ByteArray)).size + (Tide.itoB target).size ≤ 9223372036854775807 := by (try simp only [ByteArray.size_append]); omega
          have m1 : (((⟨#[115, 112, 97, 110, 32]⟩ : ByteArray) ++ Tide.itoB target)).size + ((⟨#[32]⟩ : ByteArray)).size ≤ 9223372036854775807 := by (try simp only [ByteArray.size_append]); omega
          have m2 : ((((⟨#[115, 112, 97, 110, 32]⟩ : ByteArray) ++ Tide.itoB target) ++ (⟨#[32]⟩ : ByteArray))).size + (ta).size ≤ 9223372036854775807 := by (try simp only [ByteArray.size_append]); omega
          have m3 : (((((⟨#[115, 112, 97, 110, 32]⟩ : ByteArray) ++ Tide.itoB target) ++ (⟨#[32]⟩ : ByteArray)) ++ ta)).size + ((⟨#[32, 47, 32]⟩ : ByteArray)).size ≤ 9223372036854775807 := by (try simp only [ByteArray.size_append]); omega
          have m4 : ((((((⟨#[115, 112, 97, 110, 32]⟩ : ByteArray) ++ Tide.itoB target) ++ (⟨#[32]⟩ : ByteArray)) ++ ta) ++ (⟨#[32, 47, 32]⟩ : ByteArray))).size + (tb).size ≤ 9223372036854775807 := by (try simp only [ByteArray.size_append]); omega
          have m5 : (((((((⟨#[115, 112, 97, 110, 32]⟩ : ByteArray) ++ Tide.itoB target) ++ (⟨#[32]⟩ : ByteArray)) ++ ta) ++ (⟨#[32, 47, 32]⟩ : ByteArray)) ++ tb)).size + ((⟨#[10]⟩ : ByteArray)).size ≤ 9223372036854775807 := by (try simp only [ByteArray.size_append]); omega
          have m6 : Y.size + (((((((⟨#[115, 112, 97, 110, 32]⟩ : ByteArray) ++ Tide.itoB target) ++ (⟨#[32]⟩ : ByteArray)) ++ ta) ++ (⟨#[32, 47, 32]⟩ : ByteArray)) ++ tb) ++ (⟨#[10]⟩ : ByteArray)).size ≤ 9223372036854775807 := by (try simp only [ByteArray.size_append]); omega
          have HSp := Lib.hid (show (((((((⟨#[115, 112, 97, 110, 32]⟩ : ByteArray) ++ Tide.itoB target) ++ (⟨#[32]⟩ : ByteArray)) ++ ta) ++ (⟨#[32, 47, 32]⟩ : ByteArray)) ++ tb) ++ (⟨#[10]⟩ : ByteArray)) = spanTxt target ta tb from rfl)
          clear sa sb si sy e1 e2 e3 e4
          have hS := HT.out.drew
          have hA := HFk.out.1; have hB := HFk.out.2; have ea := HE3.out.2.1; have eb := HE3.out.2.2
          refine wp_region_held_drew (S := (fun w' => w'.cell? ⟨g2, 0, none⟩ = some (.int .i64 3) ∧ w'.cell? ⟨g2, 1, none⟩ = some (.int .i64 target) ∧ w'.cell? ⟨g2, 2, none⟩ = some (.int .i64 act) ∧ w'.cell? ⟨g2, 3, none⟩ = some (.int .u64 (ai : Int)) ∧ w'.cell? ⟨g2, 4, none⟩ = some (.int .u64 (ah : Int)) ∧ w'.cell? ⟨g2, 5, none⟩ = some (.int .u64 (ad : Int)) ∧ w'.cell? ⟨g2, 6, none⟩ = some (.int .u64 (am : Int)) ∧ w'.cell? ⟨g2, 7, none⟩ = some (.int .u64 (aw : Int)) ∧ w'.cell? ⟨g2, 8, none⟩ = some (.bool aa) ∧ w'.cell? ⟨g2, 9, none⟩ = some (.bool ab) ∧ w'.cell? ⟨g2, 10, none⟩ = some (.int .u64 (bi : Int)) ∧ w'.cell? ⟨g2, 11, none⟩ = some (.int .u64 (bh : Int)) ∧ w'.cell? ⟨g2, 12, none⟩ = some (.int .u64 (bd : Int)) ∧ w'.cell? ⟨g2, 13, none⟩ = some (.int .u64 (bm : Int)) ∧ w'.cell? ⟨g2, 14, none⟩ = some (.int .u64 (bw : Int)) ∧ w'.cell? ⟨g2, 15, none⟩ = some (.bool ba) ∧ w'.cell? ⟨g2, 16, none⟩ = some (.bool bb) ∧ TrS w w' g #[.string name, .int .i64 mn, .int .i64 mx, .int .i64 poll, .int .i64 cool, .int .i64 tol, .int .i64 back, .int .i64 after, .int .i64 shift, .int .i64 u0, .int .i64 u1, .int .i64 u2, .int .i64 u3, .int .i64 d0, .int .i64 d1, .int .i64 d2, .int .i64 d3, .slice (some ⟨b, off, none⟩) ts.length cap] (some ⟨b, off, none⟩) cap ts g2 #[.int .i64 3, .int .i64 target, .int .i64 act, .int .u64 (ai : Int), .int .u64 (ah : Int), .int .u64 (ad : Int), .int .u64 (am : Int), .int .u64 (aw : Int), .bool aa, .bool ab, .int .u64 (bi : Int), .int .u64 (bh : Int), .int .u64 (bd : Int), .int .u64 (bm : Int), .int .u64 (bw : Int), .bool ba, .bool bb])) (by kernel_rfl) (trKeep hS) (fun hT0 => ?_)
          change wpAnyH _ _ _ _ _ 20 #[false, false, false, false, false, false, false, false, false, false, false, false, false, false, false, false, false, false, false, false] _ (World.drew _)
          have P0 := hS
          clear hS
          generalize W2.drew = W0 at P0 hT0 ⊢
          refine wpAnyH_take (i := 0) (v := .string Y) rfl (by kernel_rfl) (by kernel_rfl) (by kernel_rfl) (fun _ _ _ h => h) (.inl ⟨by rfl, fun W hW => ?_⟩) hT0 ?_
          · obtain ⟨z0, z1, z2, z3, z4, z5, z6, z7, z8, z9, z10, z11, z12, z13, z14, z15, z16, z17⟩ := hW; go_simp
          simp only [Act.put, List.getElem_toArray, List.getElem_cons_succ, List.getElem_cons_zero, List.setIfInBounds_toArray, List.set_cons_zero, List.set_cons_succ]
          refine wpAnyH_take (i := 1) (v := .pointer (some ⟨g2, 1, none⟩)) rfl (by kernel_rfl) (by kernel_rfl) (by kernel_rfl) (fun _ _ _ h => h) (.inl ⟨by rfl, fun W hW => ?_⟩) hT0 ?_
          · obtain ⟨z0, z1, z2, z3, z4, z5, z6, z7, z8, z9, z10, z11, z12, z13, z14, z15, z16, z17⟩ := hW; go_simp
          simp only [Act.put, List.getElem_toArray, List.getElem_cons_succ, List.getElem_cons_zero, List.setIfInBounds_toArray, List.set_cons_zero, List.set_cons_succ]
          refine wpAnyH_take (i := 2) (v := .int .i64 target) rfl (by kernel_rfl) (by kernel_rfl) (by kernel_rfl) (fun _ _ _ h => h) (.inl ⟨by rfl, fun W hW => ?_⟩) hT0 ?_
          · obtain ⟨z0, z1, z2, z3, z4, z5, z6, z7, z8, z9, z10, z11, z12, z13, z14, z15, z16, z17⟩ := hW; go_simp
          simp only [Act.put, List.getElem_toArray, List.getElem_cons_succ, List.getElem_cons_zero, List.setIfInBounds_toArray, List.set_cons_zero, List.set_cons_succ]
          refine wpAnyH_take (i := 6) (v := .pointer (some ⟨g2, 3, none⟩)) rfl (by kernel_rfl) (by kernel_rfl) (by kernel_rfl) (fun _ _ _ h => h) (.inl ⟨by rfl, fun W hW => ?_⟩) hT0 ?_
          · obtain ⟨z0, z1, z2, z3, z4, z5, z6, z7, z8, z9, z10, z11, z12, z13, z14, z15, z16, z17⟩ := hW; go_simp
          simp only [Act.put, List.getElem_toArray, List.getElem_cons_succ, List.getElem_cons_zero, List.setIfInBounds_toArray, List.set_cons_zero, List.set_cons_succ]
          refine wpAnyH_take (i := 7) (v := .pointer (some ⟨g2, 3, none⟩)) rfl (by kernel_rfl) (by kernel_rfl) (by kernel_rfl) (fun _ _ _ h => h) (.inl ⟨by rfl, fun W hW => ?_⟩) hT0 ?_
          · obtain ⟨z0, z1, z2, z3, z4, z5, z6, z7, z8, z9, z10, z11, z12, z13, z14, z15, z16, z17⟩ := hW; go_simp
          simp only [Act.put, List.getElem_toArray, List.getElem_cons_succ, List.getElem_cons_zero, List.setIfInBounds_toArray, List.set_cons_zero, List.set_cons_succ]
          refine wpAnyH_take (i := 8) (v := .agg #[.int .u64 (ai : Int), .int .u64 (ah : Int), .int .u64 (ad : Int), .int .u64 (am : Int), .int .u64 (aw : Int), .bool aa, .bool ab]) rfl (by kernel_rfl) (by kernel_rfl) (by kernel_rfl) (fun _ _ _ h => h) (.inl ⟨by rfl, fun W hW => ?_⟩) hT0 ?_
          · obtain ⟨z0, z1, z2, z3, z4, z5, z6, z7, z8, z9, z10, z11, z12, z13, z14, z15, z16, z17⟩ := hW; go_simp
          simp only [Act.put, List.getElem_toArray, List.getElem_cons_succ, List.getElem_cons_zero, List.setIfInBounds_toArray, List.set_cons_zero, List.set_cons_succ]
          refine wpAnyH_take (i := 12) (v := .pointer (some ⟨g2, 3, none⟩)) rfl (by kernel_rfl) (by kernel_rfl) (by kernel_rfl) (fun _ _ _ h => h) (.inl ⟨by rfl, fun W hW => ?_⟩) hT0 ?_
          · obtain ⟨z0, z1, z2, z3, z4, z5, z6, z7, z8, z9, z10, z11, z12, z13, z14, z15, z16, z17⟩ := hW; go_simp
          simp only [Act.put, List.getElem_toArray, List.getElem_cons_succ, List.getElem_cons_zero, List.setIfInBounds_toArray, List.set_cons_zero, List.set_cons_succ]
          refine wpAnyH_take (i := 13) (v := .pointer (some ⟨g2, 10, none⟩)) rfl (by kernel_rfl) (by kernel_rfl) (by kernel_rfl) (fun _ _ _ h => h) (.inl ⟨by rfl, fun W hW => ?_⟩) hT0 ?_
          · obtain ⟨z0, z1, z2, z3, z4, z5, z6, z7, z8, z9, z10, z11, z12, z13, z14, z15, z16, z17⟩ := hW; go_simp
          simp only [Act.put, List.getElem_toArray, List.getElem_cons_succ, List.getElem_cons_zero, List.setIfInBounds_toArray, List.set_cons_zero, List.set_cons_succ]
          refine wpAnyH_take (i := 14) (v := .agg #[.int .u64 (bi : Int), .int .u64 (bh : Int), .int .u64 (bd : Int), .int .u64 (bm : Int), .int .u64 (bw : Int), .bool ba, .bool bb]) rfl (by kernel_rfl) (by kernel_rfl) (by kernel_rfl) (fun _ _ _ h => h) (.inl ⟨by rfl, fun W hW => ?_⟩) hT0 ?_
          · obtain ⟨z0, z1, z2, z3, z4, z5, z6, z7, z8, z9, z10, z11, z12, z13, z14, z15, z16, z17⟩ := hW; go_simp
          simp only [Act.put, List.getElem_toArray, List.getElem_cons_succ, List.getElem_cons_zero, List.setIfInBounds_toArray, List.set_cons_zero, List.set_cons_succ]
          refine wpAnyH_ready (rs := [3]) (by kernel_rfl) (by simp) (AllReadyH.cons rfl (fun K hK => ?_) AllReadyH.nil)
          go_simp
          refine (trItoa target HE3.out.1 P0).mono ?_
          rintro e W11 ⟨rfl, P1⟩
          go_wp2_with fail
          refine hK.out _ _ (trKeep P1) (fun hT1 => ?_)
          clear hK K P0
          refine wpAnyH_take (i := 4) (v := .string ((⟨#[115, 112, 97, 110, 32]⟩ : ByteArray) ++ Tide.itoB target)) rfl (by kernel_rfl) (by kernel_rfl) (by kernel_rfl) (fun _ _ _ h => h) (.inl ⟨by rfl, fun W hW => ?_⟩) hT1 ?_
          · obtain ⟨z0, z1, z2, z3, z4, z5, z6, z7, z8, z9, z10, z11, z12, z13, z14, z15, z16, z17⟩ := hW; go_simp
          simp only [Act.put, List.getElem_toArray, List.getElem_cons_succ, List.getElem_cons_zero, List.setIfInBounds_toArray, List.set_cons_zero, List.set_cons_succ]
          refine wpAnyH_take (i := 5) (v := .string (((⟨#[115, 112, 97, 110, 32]⟩ : ByteArray) ++ Tide.itoB target) ++ (⟨#[32]⟩ : ByteArray))) rfl (by kernel_rfl) (by kernel_rfl) (by kernel_rfl) (fun _ _ _ h => h) (.inl ⟨by rfl, fun W hW => ?_⟩) hT1 ?_
          · obtain ⟨z0, z1, z2, z3, z4, z5, z6, z7, z8, z9, z10, z11, z12, z13, z14, z15, z16, z17⟩ := hW; go_simp
          simp only [Act.put, List.getElem_toArray, List.getElem_cons_succ, List.getElem_cons_zero, List.setIfInBounds_toArray, List.set_cons_zero, List.set_cons_succ]
          refine wpAnyH_ready (rs := [9]) (by kernel_rfl) (by simp) (AllReadyH.cons rfl (fun K hK => ?_) AllReadyH.nil)
          go_simp
          refine (trText ⟨ai, ah, ad, am, aw, aa, ab⟩ ta hA ea HTa.out P1).mono ?_
          rintro e W12 ⟨rfl, P2⟩
          go_wp2_with fail
          refine hK.out _ _ (trKeep P2) (fun hT2 => ?_)
          clear hK K P1
          refine wpAnyH_take (i := 10) (v := .string ((((⟨#[115, 112, 97, 110, 32]⟩ : ByteArray) ++ Tide.itoB target) ++ (⟨#[32]⟩ : ByteArray)) ++ ta)) rfl (by kernel_rfl) (by kernel_rfl) (by kernel_rfl) (fun _ _ _ h => h) (.inl ⟨by rfl, fun W hW => ?_⟩) hT2 ?_
          · obtain ⟨z0, z1, z2, z3, z4, z5, z6, z7, z8, z9, z10, z11, z12, z13, z14, z15, z16, z17⟩ := hW; go_simp
          simp only [Act.put, List.getElem_toArray, List.getElem_cons_succ, List.getElem_cons_zero, List.setIfInBounds_toArray, List.set_cons_zero, List.set_cons_succ]
          refine wpAnyH_take (i := 11) (v := .string (((((⟨#[115, 112, 97, 110, 32]⟩ : ByteArray) ++ Tide.itoB target) ++ (⟨#[32]⟩ : ByteArray)) ++ ta) ++ (⟨#[32, 47, 32]⟩ : ByteArray))) rfl (by kernel_rfl) (by kernel_rfl) (by kernel_rfl) (fun _ _ _ h => h) (.inl ⟨by rfl, fun W hW => ?_⟩) hT2 ?_
          · obtain ⟨z0, z1, z2, z3, z4, z5, z6, z7, z8, z9, z10, z11, z12, z13, z14, z15, z16, z17⟩ := hW; go_simp
          simp only [Act.put, List.getElem_toArray, List.getElem_cons_succ, List.getElem_cons_zero, List.setIfInBounds_toArray, List.set_cons_zero, List.set_cons_succ]
          refine wpAnyH_ready (rs := [15]) (by kernel_rfl) (by simp) (AllReadyH.cons rfl (fun K hK => ?_) AllReadyH.nil)
          go_simp
          refine (trText ⟨bi, bh, bd, bm, bw, ba, bb⟩ tb hB eb HTb.out P2).mono ?_
          rintro e W13 ⟨rfl, P3⟩
          go_wp2_with fail
          refine hK.out _ _ (trKeep P3) (fun hT3 => ?_)
          clear hK K P2
          refine wpAnyH_take (i := 16) (v := .string ((((((⟨#[115, 112, 97, 110, 32]⟩ : ByteArray) ++ Tide.itoB target) ++ (⟨#[32]⟩ : ByteArray)) ++ ta) ++ (⟨#[32, 47, 32]⟩ : ByteArray)) ++ tb)) rfl (by kernel_rfl) (by kernel_rfl) (by kernel_rfl) (fun _ _ _ h => h) (.inl ⟨by rfl, fun W hW => ?_⟩) hT3 ?_
          · obtain ⟨z0, z1, z2, z3, z4, z5, z6, z7, z8, z9, z10, z11, z12, z13, z14, z15, z16, z17⟩ := hW; go_simp
          simp only [Act.put, List.getElem_toArray, List.getElem_cons_succ, List.getElem_cons_zero, List.setIfInBounds_toArray, List.set_cons_zero, List.set_cons_succ]
          refine wpAnyH_take (i := 17) (v := .string (((((((⟨#[115, 112, 97, 110, 32]⟩ : ByteArray) ++ Tide.itoB target) ++ (⟨#[32]⟩ : ByteArray)) ++ ta) ++ (⟨#[32, 47, 32]⟩ : ByteArray)) ++ tb) ++ (⟨#[10]⟩ : ByteArray))) rfl (by kernel_rfl) (by kernel_rfl) (by kernel_rfl) (fun _ _ _ h => h) (.inl ⟨by rfl, fun W hW => ?_⟩) hT3 ?_
          · obtain ⟨z0, z1, z2, z3, z4, z5, z6, z7, z8, z9, z10, z11, z12, z13, z14, z15, z16, z17⟩ := hW; go_simp
          simp only [Act.put, List.getElem_toArray, List.getElem_cons_succ, List.getElem_cons_zero, List.setIfInBounds_toArray, List.set_cons_zero, List.set_cons_succ]
          refine wpAnyH_take (i := 18) (v := .string (Y ++ (((((((⟨#[115, 112, 97, 110, 32]⟩ : ByteArray) ++ Tide.itoB target) ++ (⟨#[32]⟩ : ByteArray)) ++ ta) ++ (⟨#[32, 47, 32]⟩ : ByteArray)) ++ tb) ++ (⟨#[10]⟩ : ByteArray)))) rfl (by kernel_rfl) (by kernel_rfl) (by kernel_rfl) (fun _ _ _ h => h) (.inl ⟨by rfl, fun W hW => ?_⟩) hT3 ?_
          · obtain ⟨z0, z1, z2, z3, z4, z5, z6, z7, z8, z9, z10, z11, z12, z13, z14, z15, z16, z17⟩ := hW; go_simp
          simp only [Act.put, List.getElem_toArray, List.getElem_cons_succ, List.getElem_cons_zero, List.setIfInBounds_toArray, List.set_cons_zero, List.set_cons_succ]
          refine wpAnyH_take (i := 19) (v := .string (Y ++ (((((((⟨#[115, 112, 97, 110, 32]⟩ : ByteArray) ++ Tide.itoB target) ++ (⟨#[32]⟩ : ByteArray)) ++ ta) ++ (⟨#[32, 47, 32]⟩ : ByteArray)) ++ tb) ++ (⟨#[10]⟩ : ByteArray)))) rfl (by kernel_rfl) (by kernel_rfl) (by kernel_rfl) (fun _ _ _ h => h) (.inl ⟨by rfl, fun W hW => ?_⟩) hT3 ?_
          · obtain ⟨z0, z1, z2, z3, z4, z5, z6, z7, z8, z9, z10, z11, z12, z13, z14, z15, z16, z17⟩ := hW; go_simp
          simp only [Act.put, List.getElem_toArray, List.getElem_cons_succ, List.getElem_cons_zero, List.setIfInBounds_toArray, List.set_cons_zero, List.set_cons_succ]
          refine wpAnyH_done (by kernel_rfl) ?_ _
          all_goals
            go_wp2_with fail
            go_round
            case rel => exact ⟨k + 1, by have := HK.out; omega, by rw [HNz.out, ← HSp.out], by go_num, Lib.hid P3.one⟩
            case measure => have := HK.out; simp [intOf]; omega
      · as_aux_lemma =>
        have HE3 := Lib.hid (show (kind = 1 ∨ kind = 2) ∧ IntW target ∧ IntW act by rcases HEk.out with h | ⟨h, _⟩; exact h; exact absurd h k3)
        clear k3
        rcases HE3.out.1 with hk | hk
        · as_aux_lemma =>
          subst hk
          obtain ⟨tx, HTx⟩ : ∃ tx, Hid (Trg.text ⟨1, target, act, ⟨ai, ah, ad, am, aw, aa, ab⟩, ⟨bi, bh, bd, bm, bw, ba, bb⟩⟩ = tx) := ⟨_, Lib.hid rfl⟩
          have HDu := Lib.hid (show DuoF tx ⟨#[108, 97, 103]⟩ target act from ⟨two_in HE3.out.2.1 HE3.out.2.2, by decide, by rw [← HTx.out]; rfl⟩)
          have HSz := Lib.hid (show tx.size ≤ 4050 by rw [← HTx.out]; exact HTz.out)
          have c0 : W2.cell? ⟨g2, 0, none⟩ = some (.int .i64 1) := HT.out.two.here rfl
          go_upto_region 11 with fail
          clear c0
          have HNz := Lib.hid (HNy.out.trans (congrArg (Y ++ ·) HTx.out))
          · have n0 : (Y.size : Int) + (tx.size : Int) ≤ 9223372036854775807 := by have := HUp.out; have := HSz.out; omega
            have n0c : Y.size + tx.size ≤ 9223372036854775807 := by omega
            have hS0 := HT.out
            have hS := HT.out.drew
            refine wp_region_held_drew (S := (fun w' => w'.cell? ⟨g2, 0, none⟩ = some (.int .i64 1) ∧ w'.cell? ⟨g2, 1, none⟩ = some (.int .i64 target) ∧ w'.cell? ⟨g2, 2, none⟩ = some (.int .i64 act) ∧ w'.cell? ⟨g2, 3, none⟩ = some (.int .u64 (ai : Int)) ∧ w'.cell? ⟨g2, 4, none⟩ = some (.int .u64 (ah : Int)) ∧ w'.cell? ⟨g2, 5, none⟩ = some (.int .u64 (ad : Int)) ∧ w'.cell? ⟨g2, 6, none⟩ = some (.int .u64 (am : Int)) ∧ w'.cell? ⟨g2, 7, none⟩ = some (.int .u64 (aw : Int)) ∧ w'.cell? ⟨g2, 8, none⟩ = some (.bool aa) ∧ w'.cell? ⟨g2, 9, none⟩ = some (.bool ab) ∧ w'.cell? ⟨g2, 10, none⟩ = some (.int .u64 (bi : Int)) ∧ w'.cell? ⟨g2, 11, none⟩ = some (.int .u64 (bh : Int)) ∧ w'.cell? ⟨g2, 12, none⟩ = some (.int .u64 (bd : Int)) ∧ w'.cell? ⟨g2, 13, none⟩ = some (.int .u64 (bm : Int)) ∧ w'.cell? ⟨g2, 14, none⟩ = some (.int .u64 (bw : Int)) ∧ w'.cell? ⟨g2, 15, none⟩ = some (.bool ba) ∧ w'.cell? ⟨g2, 16, none⟩ = some (.bool bb) ∧ TrS w w' g #[.string name, .int .i64 mn, .int .i64 mx, .int .i64 poll, .int .i64 cool, .int .i64 tol, .int .i64 back, .int .i64 after, .int .i64 shift, .int .i64 u0, .int .i64 u1, .int .i64 u2, .int .i64 u3, .int .i64 d0, .int .i64 d1, .int .i64 d2, .int .i64 d3, .slice (some ⟨b, off, none⟩) ts.length cap] (some ⟨b, off, none⟩) cap ts g2 #[.int .i64 1, .int .i64 target, .int .i64 act, .int .u64 (ai : Int), .int .u64 (ah : Int), .int .u64 (ad : Int), .int .u64 (am : Int), .int .u64 (aw : Int), .bool aa, .bool ab, .int .u64 (bi : Int), .int .u64 (bh : Int), .int .u64 (bd : Int), .int .u64 (bm : Int), .int .u64 (bw : Int), .bool ba, .bool bb])) (by kernel_rfl) (trKeep hS) (fun hT0 => ?_)
            change wpAnyH _ _ _ _ _ 14 #[false, false, false, false, false, false, false, false, false, false, false, false, false, false] _ (World.drew _)
            have P0 := hS
            clear hS hS0
            generalize W2.drew = W0 at P0 hT0 ⊢
            refine wpAnyH_take (i := 0) (v := .string Y) rfl (by kernel_rfl) (by kernel_rfl) (by kernel_rfl) (fun _ _ _ h => h) (.inl ⟨by rfl, fun W hW => ?_⟩) hT0 ?_
            · obtain ⟨z0, z1, z2, z3, z4, z5, z6, z7, z8, z9, z10, z11, z12, z13, z14, z15, z16, z17⟩ := hW; go_simp
            simp only [Act.put, List.getElem_toArray, List.getElem_cons_succ, List.getElem_cons_zero, List.setIfInBounds_toArray, List.set_cons_zero, List.set_cons_succ]
            refine wpAnyH_take (i := 2) (v := .pointer (some ⟨g2, 0, none⟩)) rfl (by kernel_rfl) (by kernel_rfl) (by kernel_rfl) (fun _ _ _ h => h) (.inl ⟨by rfl, fun W hW => ?_⟩) hT0 ?_
            · obtain ⟨z0, z1, z2, z3, z4, z5, z6, z7, z8, z9, z10, z11, z12, z13, z14, z15, z16, z17⟩ := hW; go_simp
            simp only [Act.put, List.getElem_toArray, List.getElem_cons_succ, List.getElem_cons_zero, List.setIfInBounds_toArray, List.set_cons_zero, List.set_cons_succ]
            refine wpAnyH_take (i := 3) (v := .int .i64 1) rfl (by kernel_rfl) (by kernel_rfl) (by kernel_rfl) (fun _ _ _ h => h) (.inl ⟨by rfl, fun W hW => ?_⟩) hT0 ?_
            · obtain ⟨z0, z1, z2, z3, z4, z5, z6, z7, z8, z9, z10, z11, z12, z13, z14, z15, z16, z17⟩ := hW; go_simp
            simp only [Act.put, List.getElem_toArray, List.getElem_cons_succ, List.getElem_cons_zero, List.setIfInBounds_toArray, List.set_cons_zero, List.set_cons_succ]
            refine wpAnyH_take (i := 6) (v := .pointer (some ⟨g2, 1, none⟩)) rfl (by kernel_rfl) (by kernel_rfl) (by kernel_rfl) (fun _ _ _ h => h) (.inl ⟨by rfl, fun W hW => ?_⟩) hT0 ?_
            · obtain ⟨z0, z1, z2, z3, z4, z5, z6, z7, z8, z9, z10, z11, z12, z13, z14, z15, z16, z17⟩ := hW; go_simp
            simp only [Act.put, List.getElem_toArray, List.getElem_cons_succ, List.getElem_cons_zero, List.setIfInBounds_toArray, List.set_cons_zero, List.set_cons_succ]
            refine wpAnyH_take (i := 7) (v := .int .i64 target) rfl (by kernel_rfl) (by kernel_rfl) (by kernel_rfl) (fun _ _ _ h => h) (.inl ⟨by rfl, fun W hW => ?_⟩) hT0 ?_
            · obtain ⟨z0, z1, z2, z3, z4, z5, z6, z7, z8, z9, z10, z11, z12, z13, z14, z15, z16, z17⟩ := hW; go_simp
            simp only [Act.put, List.getElem_toArray, List.getElem_cons_succ, List.getElem_cons_zero, List.setIfInBounds_toArray, List.set_cons_zero, List.set_cons_succ]
            refine wpAnyH_take (i := 8) (v := .pointer (some ⟨g2, 2, none⟩)) rfl (by kernel_rfl) (by kernel_rfl) (by kernel_rfl) (fun _ _ _ h => h) (.inl ⟨by rfl, fun W hW => ?_⟩) hT0 ?_
            · obtain ⟨z0, z1, z2, z3, z4, z5, z6, z7, z8, z9, z10, z11, z12, z13, z14, z15, z16, z17⟩ := hW; go_simp
            simp only [Act.put, List.getElem_toArray, List.getElem_cons_succ, List.getElem_cons_zero, List.setIfInBounds_toArray, List.set_cons_zero, List.set_cons_succ]
            refine wpAnyH_take (i := 9) (v := .int .i64 act) rfl (by kernel_rfl) (by kernel_rfl) (by kernel_rfl) (fun _ _ _ h => h) (.inl ⟨by rfl, fun W hW => ?_⟩) hT0 ?_
            · obtain ⟨z0, z1, z2, z3, z4, z5, z6, z7, z8, z9, z10, z11, z12, z13, z14, z15, z16, z17⟩ := hW; go_simp
            simp only [Act.put, List.getElem_toArray, List.getElem_cons_succ, List.getElem_cons_zero, List.setIfInBounds_toArray, List.set_cons_zero, List.set_cons_succ]
            refine wpAnyH_ready (rs := [1, 10]) (by kernel_rfl) (by simp) (AllReadyH.cons rfl (fun K hK => ?_) (AllReadyH.cons rfl (fun K hK => ?_) AllReadyH.nil))
            · go_simp
              have P1 := P0.alloc (.cells #[.string ⟨#[]⟩, .string ⟨#[108, 97, 103]⟩, .string ⟨#[100, 101, 112, 116, 104]⟩] 9)
              have Q1 := Tide.At.made W0 9 #[.string ⟨#[]⟩, .string ⟨#[108, 97, 103]⟩, .string ⟨#[100, 101, 112, 116, 104]⟩]
              refine hK.out _ _ (trKeep P1) (fun hT1 => ?_)
              clear hK K P0
              generalize W0.alloc (.cells #[.string ⟨#[]⟩, .string ⟨#[108, 97, 103]⟩, .string ⟨#[100, 101, 112, 116, 104]⟩] 9) = W1 at P1 hT1 Q1 ⊢
              generalize W0.heap.size = b1 at Q1 ⊢
              refine wpAnyH_take (i := 4) (v := .pointer (some ⟨b1, 1, none⟩)) rfl (by kernel_rfl) (by kernel_rfl) (by kernel_rfl) (fun _ _ _ h => h) (.inl ⟨by rfl, fun W hW => ?_⟩) hT1 ?_
              · obtain ⟨z0, z1, z2, z3, z4, z5, z6, z7, z8, z9, z10, z11, z12, z13, z14, z15, z16, z17⟩ := hW; go_simp
              simp only [Act.put, List.getElem_toArray, List.getElem_cons_succ, List.getElem_cons_zero, List.setIfInBounds_toArray, List.set_cons_zero, List.set_cons_succ]
              refine wpAnyH_ready (rs := [5, 10]) (by kernel_rfl) (by simp) (AllReadyH.cons rfl (fun K hK => ?_) (AllReadyH.cons rfl (fun K hK => ?_) AllReadyH.nil))
              · have y5 := Q1.here (i := 1) rfl
                go_simp
                refine hK.out _ _ (trKeep P1) (fun hT2 => ?_)
                have P2 := P1
                clear hK K P1 y5
                generalize hW : W1 = W2 at P2 hT2 ⊢
                refine wpAnyH_ready (rs := [10]) (by kernel_rfl) (by simp) (AllReadyH.cons rfl (fun K hK => ?_) AllReadyH.nil)
                · go_simp
                  have P3 := P2.alloc (.cells #[.int .i64 target, .int .i64 act] 3)
                  have Q10 := Tide.At.made W2 3 #[.int .i64 target, .int .i64 act]
                  refine hK.out _ _ (trKeep P3) (fun hT3 => ?_)
                  clear hK K P2
                  generalize W2.alloc (.cells #[.int .i64 target, .int .i64 act] 3) = W3 at P3 hT3 Q10 ⊢
                  generalize W2.heap.size = b10 at Q10 ⊢
                  refine wpAnyH_ready (rs := [11]) (by kernel_rfl) (by simp) (AllReadyH.cons rfl (fun K hK => ?_) AllReadyH.nil)
                  · go_simp
                    refine (trRow tx _ target act Q10 P3 HDu.out).mono ?_
                    rintro e W4 ⟨rfl, P4⟩
                    go_wp2_with fail
                    refine hK.out _ _ (trKeep P4) (fun hT4 => ?_)
                    clear hK K P3
                    refine wpAnyH_take (i := 12) (v := .string (Y ++ tx)) rfl (by kernel_rfl) (by kernel_rfl) (by kernel_rfl) (fun _ _ _ h => h) (.inl ⟨by rfl, fun W hW => ?_⟩) hT4 ?_
                    · obtain ⟨z0, z1, z2, z3, z4, z5, z6, z7, z8, z9, z10, z11, z12, z13, z14, z15, z16, z17⟩ := hW; go_simp
                    simp only [Act.put, List.getElem_toArray, List.getElem_cons_succ, List.getElem_cons_zero, List.setIfInBounds_toArray, List.set_cons_zero, List.set_cons_succ]
                    refine wpAnyH_take (i := 13) (v := .string (Y ++ tx)) rfl (by kernel_rfl) (by kernel_rfl) (by kernel_rfl) (fun _ _ _ h => h) (.inl ⟨by rfl, fun W hW => ?_⟩) hT4 ?_
                    · obtain ⟨z0, z1, z2, z3, z4, z5, z6, z7, z8, z9, z10, z11, z12, z13, z14, z15, z16, z17⟩ := hW; go_simp
                    simp only [Act.put, List.getElem_toArray, List.getElem_cons_succ, List.getElem_cons_zero, List.setIfInBounds_toArray, List.set_cons_zero, List.set_cons_succ]
                    refine wpAnyH_done (by kernel_rfl) ?_ _
                    go_wp2_with fail
                    go_round
                    case rel => exact ⟨k + 1, by have := HK.out; omega, by rw [HNz.out], by go_num, Lib.hid P4.one⟩
                    case measure => have := HK.out; simp [intOf]; omega
              · go_simp
                have P2 := P1.alloc (.cells #[.int .i64 target, .int .i64 act] 3)
                have Q10 := Tide.At.made W1 3 #[.int .i64 target, .int .i64 act]
                have Q1 := Tide.At.alloc Q1 (.cells #[.int .i64 target, .int .i64 act] 3)
                refine hK.out _ _ (trKeep P2) (fun hT2 => ?_)
                clear hK K P1
                generalize W1.alloc (.cells #[.int .i64 target, .int .i64 act] 3) = W2 at P2 hT2 Q10 Q1 ⊢
                generalize W1.heap.size = b10 at Q10 ⊢
                refine wpAnyH_ready (rs := [5]) (by kernel_rfl) (by simp) (AllReadyH.cons rfl (fun K hK => ?_) AllReadyH.nil)
                · have y5 := Q1.here (i := 1) rfl
                  go_simp
                  refine hK.out _ _ (trKeep P2) (fun hT3 => ?_)
                  have P3 := P2
                  clear hK K P2 y5
                  generalize hW : W2 = W3 at P3 hT3 Q10 ⊢
                  refine wpAnyH_ready (rs := [11]) (by kernel_rfl) (by simp) (AllReadyH.cons rfl (fun K hK => ?_) AllReadyH.nil)
                  · go_simp
                    refine (trRow tx _ target act Q10 P3 HDu.out).mono ?_
                    rintro e W4 ⟨rfl, P4⟩
                    go_wp2_with fail
                    refine hK.out _ _ (trKeep P4) (fun hT4 => ?_)
                    clear hK K P3
                    refine wpAnyH_take (i := 12) (v := .string (Y ++ tx)) rfl (by kernel_rfl) (by kernel_rfl) (by kernel_rfl) (fun _ _ _ h => h) (.inl ⟨by rfl, fun W hW => ?_⟩) hT4 ?_
                    · obtain ⟨z0, z1, z2, z3, z4, z5, z6, z7, z8, z9, z10, z11, z12, z13, z14, z15, z16, z17⟩ := hW; go_simp
                    simp only [Act.put, List.getElem_toArray, List.getElem_cons_succ, List.getElem_cons_zero, List.setIfInBounds_toArray, List.set_cons_zero, List.set_cons_succ]
                    refine wpAnyH_take (i := 13) (v := .string (Y ++ tx)) rfl (by kernel_rfl) (by kernel_rfl) (by kernel_rfl) (fun _ _ _ h => h) (.inl ⟨by rfl, fun W hW => ?_⟩) hT4 ?_
                    · obtain ⟨z0, z1, z2, z3, z4, z5, z6, z7, z8, z9, z10, z11, z12, z13, z14, z15, z16, z17⟩ := hW; go_simp
                    simp only [Act.put, List.getElem_toArray, List.getElem_cons_succ, List.getElem_cons_zero, List.setIfInBounds_toArray, List.set_cons_zero, List.set_cons_succ]
                    refine wpAnyH_done (by kernel_rfl) ?_ _
                    go_wp2_with fail
                    go_round
                    case rel => exact ⟨k + 1, by have := HK.out; omega, by rw [HNz.out], by go_num, Lib.hid P4.one⟩
                    case measure => have := HK.out; simp [intOf]; omega
            · go_simp
              have P1 := P0.alloc (.cells #[.int .i64 target, .int .i64 act] 3)
              have Q10 := Tide.At.made W0 3 #[.int .i64 target, .int .i64 act]
              refine hK.out _ _ (trKeep P1) (fun hT1 => ?_)
              clear hK K P0
              generalize W0.alloc (.cells #[.int .i64 target, .int .i64 act] 3) = W1 at P1 hT1 Q10 ⊢
              generalize W0.heap.size = b10 at Q10 ⊢
              refine wpAnyH_ready (rs := [1]) (by kernel_rfl) (by simp) (AllReadyH.cons rfl (fun K hK => ?_) AllReadyH.nil)
              · go_simp
                have P2 := P1.alloc (.cells #[.string ⟨#[]⟩, .string ⟨#[108, 97, 103]⟩, .string ⟨#[100, 101, 112, 116, 104]⟩] 9)
                have Q1 := Tide.At.made W1 9 #[.string ⟨#[]⟩, .string ⟨#[108, 97, 103]⟩, .string ⟨#[100, 101, 112, 116, 104]⟩]
                have Q10 := Tide.At.alloc Q10 (.cells #[.string ⟨#[]⟩, .string ⟨#[108, 97, 103]⟩, .string ⟨#[100, 101, 112, 116, 104]⟩] 9)
                refine hK.out _ _ (trKeep P2) (fun hT2 => ?_)
                clear hK K P1
                generalize W1.alloc (.cells #[.string ⟨#[]⟩, .string ⟨#[108, 97, 103]⟩, .string ⟨#[100, 101, 112, 116, 104]⟩] 9) = W2 at P2 hT2 Q1 Q10 ⊢
                generalize W1.heap.size = b1 at Q1 ⊢
                refine wpAnyH_take (i := 4) (v := .pointer (some ⟨b1, 1, none⟩)) rfl (by kernel_rfl) (by kernel_rfl) (by kernel_rfl) (fun _ _ _ h => h) (.inl ⟨by rfl, fun W hW => ?_⟩) hT2 ?_
                · obtain ⟨z0, z1, z2, z3, z4, z5, z6, z7, z8, z9, z10, z11, z12, z13, z14, z15, z16, z17⟩ := hW; go_simp
                simp only [Act.put, List.getElem_toArray, List.getElem_cons_succ, List.getElem_cons_zero, List.setIfInBounds_toArray, List.set_cons_zero, List.set_cons_succ]
                refine wpAnyH_ready (rs := [5]) (by kernel_rfl) (by simp) (AllReadyH.cons rfl (fun K hK => ?_) AllReadyH.nil)
                · have y5 := Q1.here (i := 1) rfl
                  go_simp
                  refine hK.out _ _ (trKeep P2) (fun hT3 => ?_)
                  have P3 := P2
                  clear hK K P2 y5
                  generalize hW : W2 = W3 at P3 hT3 Q10 ⊢
                  refine wpAnyH_ready (rs := [11]) (by kernel_rfl) (by simp) (AllReadyH.cons rfl (fun K hK => ?_) AllReadyH.nil)
                  · go_simp
                    refine (trRow tx _ target act Q10 P3 HDu.out).mono ?_
                    rintro e W4 ⟨rfl, P4⟩
                    go_wp2_with fail
                    refine hK.out _ _ (trKeep P4) (fun hT4 => ?_)
                    clear hK K P3
                    refine wpAnyH_take (i := 12) (v := .string (Y ++ tx)) rfl (by kernel_rfl) (by kernel_rfl) (by kernel_rfl) (fun _ _ _ h => h) (.inl ⟨by rfl, fun W hW => ?_⟩) hT4 ?_
                    · obtain ⟨z0, z1, z2, z3, z4, z5, z6, z7, z8, z9, z10, z11, z12, z13, z14, z15, z16, z17⟩ := hW; go_simp
                    simp only [Act.put, List.getElem_toArray, List.getElem_cons_succ, List.getElem_cons_zero, List.setIfInBounds_toArray, List.set_cons_zero, List.set_cons_succ]
                    refine wpAnyH_take (i := 13) (v := .string (Y ++ tx)) rfl (by kernel_rfl) (by kernel_rfl) (by kernel_rfl) (fun _ _ _ h => h) (.inl ⟨by rfl, fun W hW => ?_⟩) hT4 ?_
                    · obtain ⟨z0, z1, z2, z3, z4, z5, z6, z7, z8, z9, z10, z11, z12, z13, z14, z15, z16, z17⟩ := hW; go_simp
                    simp only [Act.put, List.getElem_toArray, List.getElem_cons_succ, List.getElem_cons_zero, List.setIfInBounds_toArray, List.set_cons_zero, List.set_cons_succ]
                    refine wpAnyH_done (by kernel_rfl) ?_ _
                    go_wp2_with fail
                    go_round
                    case rel => exact ⟨k + 1, by have := HK.out; omega, by rw [HNz.out], by go_num, Lib.hid P4.one⟩
                    case measure => have := HK.out; simp [intOf]; omega
        · as_aux_lemma =>
          subst hk
          obtain ⟨tx, HTx⟩ : ∃ tx, Hid (Trg.text ⟨2, target, act, ⟨ai, ah, ad, am, aw, aa, ab⟩, ⟨bi, bh, bd, bm, bw, ba, bb⟩⟩ = tx) := ⟨_, Lib.hid rfl⟩
          have HDu := Lib.hid (show DuoF tx ⟨#[100, 101, 112, 116, 104]⟩ target act from ⟨two_in HE3.out.2.1 HE3.out.2.2, by decide, by rw [← HTx.out]; rfl⟩)
          have HSz := Lib.hid (show tx.size ≤ 4050 by rw [← HTx.out]; exact HTz.out)
          have c0 : W2.cell? ⟨g2, 0, none⟩ = some (.int .i64 2) := HT.out.two.here rfl
          go_upto_region 11 with fail
          clear c0
          have HNz := Lib.hid (HNy.out.trans (congrArg (Y ++ ·) HTx.out))
          · have n0 : (Y.size : Int) + (tx.size : Int) ≤ 9223372036854775807 := by have := HUp.out; have := HSz.out; omega
            have n0c : Y.size + tx.size ≤ 9223372036854775807 := by omega
            have hS0 := HT.out
            have hS := HT.out.drew
            refine wp_region_held_drew (S := (fun w' => w'.cell? ⟨g2, 0, none⟩ = some (.int .i64 2) ∧ w'.cell? ⟨g2, 1, none⟩ = some (.int .i64 target) ∧ w'.cell? ⟨g2, 2, none⟩ = some (.int .i64 act) ∧ w'.cell? ⟨g2, 3, none⟩ = some (.int .u64 (ai : Int)) ∧ w'.cell? ⟨g2, 4, none⟩ = some (.int .u64 (ah : Int)) ∧ w'.cell? ⟨g2, 5, none⟩ = some (.int .u64 (ad : Int)) ∧ w'.cell? ⟨g2, 6, none⟩ = some (.int .u64 (am : Int)) ∧ w'.cell? ⟨g2, 7, none⟩ = some (.int .u64 (aw : Int)) ∧ w'.cell? ⟨g2, 8, none⟩ = some (.bool aa) ∧ w'.cell? ⟨g2, 9, none⟩ = some (.bool ab) ∧ w'.cell? ⟨g2, 10, none⟩ = some (.int .u64 (bi : Int)) ∧ w'.cell? ⟨g2, 11, none⟩ = some (.int .u64 (bh : Int)) ∧ w'.cell? ⟨g2, 12, none⟩ = some (.int .u64 (bd : Int)) ∧ w'.cell? ⟨g2, 13, none⟩ = some (.int .u64 (bm : Int)) ∧ w'.cell? ⟨g2, 14, none⟩ = some (.int .u64 (bw : Int)) ∧ w'.cell? ⟨g2, 15, none⟩ = some (.bool ba) ∧ w'.cell? ⟨g2, 16, none⟩ = some (.bool bb) ∧ TrS w w' g #[.string name, .int .i64 mn, .int .i64 mx, .int .i64 poll, .int .i64 cool, .int .i64 tol, .int .i64 back, .int .i64 after, .int .i64 shift, .int .i64 u0, .int .i64 u1, .int .i64 u2, .int .i64 u3, .int .i64 d0, .int .i64 d1, .int .i64 d2, .int .i64 d3, .slice (some ⟨b, off, none⟩) ts.length cap] (some ⟨b, off, none⟩) cap ts g2 #[.int .i64 2, .int .i64 target, .int .i64 act, .int .u64 (ai : Int), .int .u64 (ah : Int), .int .u64 (ad : Int), .int .u64 (am : Int), .int .u64 (aw : Int), .bool aa, .bool ab, .int .u64 (bi : Int), .int .u64 (bh : Int), .int .u64 (bd : Int), .int .u64 (bm : Int), .int .u64 (bw : Int), .bool ba, .bool bb])) (by kernel_rfl) (trKeep hS) (fun hT0 => ?_)
            change wpAnyH _ _ _ _ _ 14 #[false, false, false, false, false, false, false, false, false, false, false, false, false, false] _ (World.drew _)
            have P0 := hS
            clear hS hS0
            generalize W2.drew = W0 at P0 hT0 ⊢
            refine wpAnyH_take (i := 0) (v := .string Y) rfl (by kernel_rfl) (by kernel_rfl) (by kernel_rfl) (fun _ _ _ h => h) (.inl ⟨by rfl, fun W hW => ?_⟩) hT0 ?_
            · obtain ⟨z0, z1, z2, z3, z4, z5, z6, z7, z8, z9, z10, z11, z12, z13, z14, z15, z16, z17⟩ := hW; go_simp
            simp only [Act.put, List.getElem_toArray, List.getElem_cons_succ, List.getElem_cons_zero, List.setIfInBounds_toArray, List.set_cons_zero, List.set_cons_succ]
            refine wpAnyH_take (i := 2) (v := .pointer (some ⟨g2, 0, none⟩)) rfl (by kernel_rfl) (by kernel_rfl) (by kernel_rfl) (fun _ _ _ h => h) (.inl ⟨by rfl, fun W hW => ?_⟩) hT0 ?_
            · obtain ⟨z0, z1, z2, z3, z4, z5, z6, z7, z8, z9, z10, z11, z12, z13, z14, z15, z16, z17⟩ := hW; go_simp
            simp only [Act.put, List.getElem_toArray, List.getElem_cons_succ, List.getElem_cons_zero, List.setIfInBounds_toArray, List.set_cons_zero, List.set_cons_succ]
            refine wpAnyH_take (i := 3) (v := .int .i64 2) rfl (by kernel_rfl) (by kernel_rfl) (by kernel_rfl) (fun _ _ _ h => h) (.inl ⟨by rfl, fun W hW => ?_⟩) hT0 ?_
            · obtain ⟨z0, z1, z2, z3, z4, z5, z6, z7, z8, z9, z10, z11, z12, z13, z14, z15, z16, z17⟩ := hW; go_simp
            simp only [Act.put, List.getElem_toArray, List.getElem_cons_succ, List.getElem_cons_zero, List.setIfInBounds_toArray, List.set_cons_zero, List.set_cons_succ]
            refine wpAnyH_take (i := 6) (v := .pointer (some ⟨g2, 1, none⟩)) rfl (by kernel_rfl) (by kernel_rfl) (by kernel_rfl) (fun _ _ _ h => h) (.inl ⟨by rfl, fun W hW => ?_⟩) hT0 ?_
            · obtain ⟨z0, z1, z2, z3, z4, z5, z6, z7, z8, z9, z10, z11, z12, z13, z14, z15, z16, z17⟩ := hW; go_simp
            simp only [Act.put, List.getElem_toArray, List.getElem_cons_succ, List.getElem_cons_zero, List.setIfInBounds_toArray, List.set_cons_zero, List.set_cons_succ]
            refine wpAnyH_take (i := 7) (v := .int .i64 target) rfl (by kernel_rfl) (by kernel_rfl) (by kernel_rfl) (fun _ _ _ h => h) (.inl ⟨by rfl, fun W hW => ?_⟩) hT0 ?_
            · obtain ⟨z0, z1, z2, z3, z4, z5, z6, z7, z8, z9, z10, z11, z12, z13, z14, z15, z16, z17⟩ := hW; go_simp
            simp only [Act.put, List.getElem_toArray, List.getElem_cons_succ, List.getElem_cons_zero, List.setIfInBounds_toArray, List.set_cons_zero, List.set_cons_succ]
            refine wpAnyH_take (i := 8) (v := .pointer (some ⟨g2, 2, none⟩)) rfl (by kernel_rfl) (by kernel_rfl) (by kernel_rfl) (fun _ _ _ h => h) (.inl ⟨by rfl, fun W hW => ?_⟩) hT0 ?_
            · obtain ⟨z0, z1, z2, z3, z4, z5, z6, z7, z8, z9, z10, z11, z12, z13, z14, z15, z16, z17⟩ := hW; go_simp
            simp only [Act.put, List.getElem_toArray, List.getElem_cons_succ, List.getElem_cons_zero, List.setIfInBounds_toArray, List.set_cons_zero, List.set_cons_succ]
            refine wpAnyH_take (i := 9) (v := .int .i64 act) rfl (by kernel_rfl) (by kernel_rfl) (by kernel_rfl) (fun _ _ _ h => h) (.inl ⟨by rfl, fun W hW => ?_⟩) hT0 ?_
            · obtain ⟨z0, z1, z2, z3, z4, z5, z6, z7, z8, z9, z10, z11, z12, z13, z14, z15, z16, z17⟩ := hW; go_simp
            simp only [Act.put, List.getElem_toArray, List.getElem_cons_succ, List.getElem_cons_zero, List.setIfInBounds_toArray, List.set_cons_zero, List.set_cons_succ]
            refine wpAnyH_ready (rs := [1, 10]) (by kernel_rfl) (by simp) (AllReadyH.cons rfl (fun K hK => ?_) (AllReadyH.cons rfl (fun K hK => ?_) AllReadyH.nil))
            · go_simp
              have P1 := P0.alloc (.cells #[.string ⟨#[]⟩, .string ⟨#[108, 97, 103]⟩, .string ⟨#[100, 101, 112, 116, 104]⟩] 9)
              have Q1 := Tide.At.made W0 9 #[.string ⟨#[]⟩, .string ⟨#[108, 97, 103]⟩, .string ⟨#[100, 101, 112, 116, 104]⟩]
              refine hK.out _ _ (trKeep P1) (fun hT1 => ?_)
              clear hK K P0
              generalize W0.alloc (.cells #[.string ⟨#[]⟩, .string ⟨#[108, 97, 103]⟩, .string ⟨#[100, 101, 112, 116, 104]⟩] 9) = W1 at P1 hT1 Q1 ⊢
              generalize W0.heap.size = b1 at Q1 ⊢
              refine wpAnyH_take (i := 4) (v := .pointer (some ⟨b1, 2, none⟩)) rfl (by kernel_rfl) (by kernel_rfl) (by kernel_rfl) (fun _ _ _ h => h) (.inl ⟨by rfl, fun W hW => ?_⟩) hT1 ?_
              · obtain ⟨z0, z1, z2, z3, z4, z5, z6, z7, z8, z9, z10, z11, z12, z13, z14, z15, z16, z17⟩ := hW; go_simp
              simp only [Act.put, List.getElem_toArray, List.getElem_cons_succ, List.getElem_cons_zero, List.setIfInBounds_toArray, List.set_cons_zero, List.set_cons_succ]
              refine wpAnyH_ready (rs := [5, 10]) (by kernel_rfl) (by simp) (AllReadyH.cons rfl (fun K hK => ?_) (AllReadyH.cons rfl (fun K hK => ?_) AllReadyH.nil))
              · have y5 := Q1.here (i := 2) rfl
                go_simp
                refine hK.out _ _ (trKeep P1) (fun hT2 => ?_)
                have P2 := P1
                clear hK K P1 y5
                generalize hW : W1 = W2 at P2 hT2 ⊢
                refine wpAnyH_ready (rs := [10]) (by kernel_rfl) (by simp) (AllReadyH.cons rfl (fun K hK => ?_) AllReadyH.nil)
                · go_simp
                  have P3 := P2.alloc (.cells #[.int .i64 target, .int .i64 act] 3)
                  have Q10 := Tide.At.made W2 3 #[.int .i64 target, .int .i64 act]
                  refine hK.out _ _ (trKeep P3) (fun hT3 => ?_)
                  clear hK K P2
                  generalize W2.alloc (.cells #[.int .i64 target, .int .i64 act] 3) = W3 at P3 hT3 Q10 ⊢
                  generalize W2.heap.size = b10 at Q10 ⊢
                  refine wpAnyH_ready (rs := [11]) (by kernel_rfl) (by simp) (AllReadyH.cons rfl (fun K hK => ?_) AllReadyH.nil)
                  · go_simp
                    refine (trRow tx _ target act Q10 P3 HDu.out).mono ?_
                    rintro e W4 ⟨rfl, P4⟩
                    go_wp2_with fail
                    refine hK.out _ _ (trKeep P4) (fun hT4 => ?_)
                    clear hK K P3
                    refine wpAnyH_take (i := 12) (v := .string (Y ++ tx)) rfl (by kernel_rfl) (by kernel_rfl) (by kernel_rfl) (fun _ _ _ h => h) (.inl ⟨by rfl, fun W hW => ?_⟩) hT4 ?_
                    · obtain ⟨z0, z1, z2, z3, z4, z5, z6, z7, z8, z9, z10, z11, z12, z13, z14, z15, z16, z17⟩ := hW; go_simp
                    simp only [Act.put, List.getElem_toArray, List.getElem_cons_succ, List.getElem_cons_zero, List.setIfInBounds_toArray, List.set_cons_zero, List.set_cons_succ]
                    refine wpAnyH_take (i := 13) (v := .string (Y ++ tx)) rfl (by kernel_rfl) (by kernel_rfl) (by kernel_rfl) (fun _ _ _ h => h) (.inl ⟨by rfl, fun W hW => ?_⟩) hT4 ?_
                    · obtain ⟨z0, z1, z2, z3, z4, z5, z6, z7, z8, z9, z10, z11, z12, z13, z14, z15, z16, z17⟩ := hW; go_simp
                    simp only [Act.put, List.getElem_toArray, List.getElem_cons_succ, List.getElem_cons_zero, List.setIfInBounds_toArray, List.set_cons_zero, List.set_cons_succ]
                    refine wpAnyH_done (by kernel_rfl) ?_ _
                    go_wp2_with fail
                    go_round
                    case rel => exact ⟨k + 1, by have := HK.out; omega, by rw [HNz.out], by go_num, Lib.hid P4.one⟩
                    case measure => have := HK.out; simp [intOf]; omega
              · go_simp
                have P2 := P1.alloc (.cells #[.int .i64 target, .int .i64 act] 3)
                have Q10 := Tide.At.made W1 3 #[.int .i64 target, .int .i64 act]
                have Q1 := Tide.At.alloc Q1 (.cells #[.int .i64 target, .int .i64 act] 3)
                refine hK.out _ _ (trKeep P2) (fun hT2 => ?_)
                clear hK K P1
                generalize W1.alloc (.cells #[.int .i64 target, .int .i64 act] 3) = W2 at P2 hT2 Q10 Q1 ⊢
                generalize W1.heap.size = b10 at Q10 ⊢
                refine wpAnyH_ready (rs := [5]) (by kernel_rfl) (by simp) (AllReadyH.cons rfl (fun K hK => ?_) AllReadyH.nil)
                · have y5 := Q1.here (i := 2) rfl
                  go_simp
                  refine hK.out _ _ (trKeep P2) (fun hT3 => ?_)
                  have P3 := P2
                  clear hK K P2 y5
                  generalize hW : W2 = W3 at P3 hT3 Q10 ⊢
                  refine wpAnyH_ready (rs := [11]) (by kernel_rfl) (by simp) (AllReadyH.cons rfl (fun K hK => ?_) AllReadyH.nil)
                  · go_simp
                    refine (trRow tx _ target act Q10 P3 HDu.out).mono ?_
                    rintro e W4 ⟨rfl, P4⟩
                    go_wp2_with fail
                    refine hK.out _ _ (trKeep P4) (fun hT4 => ?_)
                    clear hK K P3
                    refine wpAnyH_take (i := 12) (v := .string (Y ++ tx)) rfl (by kernel_rfl) (by kernel_rfl) (by kernel_rfl) (fun _ _ _ h => h) (.inl ⟨by rfl, fun W hW => ?_⟩) hT4 ?_
                    · obtain ⟨z0, z1, z2, z3, z4, z5, z6, z7, z8, z9, z10, z11, z12, z13, z14, z15, z16, z17⟩ := hW; go_simp
                    simp only [Act.put, List.getElem_toArray, List.getElem_cons_succ, List.getElem_cons_zero, List.setIfInBounds_toArray, List.set_cons_zero, List.set_cons_succ]
                    refine wpAnyH_take (i := 13) (v := .string (Y ++ tx)) rfl (by kernel_rfl) (by kernel_rfl) (by kernel_rfl) (fun _ _ _ h => h) (.inl ⟨by rfl, fun W hW => ?_⟩) hT4 ?_
                    · obtain ⟨z0, z1, z2, z3, z4, z5, z6, z7, z8, z9, z10, z11, z12, z13, z14, z15, z16, z17⟩ := hW; go_simp
                    simp only [Act.put, List.getElem_toArray, List.getElem_cons_succ, List.getElem_cons_zero, List.setIfInBounds_toArray, List.set_cons_zero, List.set_cons_succ]
                    refine wpAnyH_done (by kernel_rfl) ?_ _
                    go_wp2_with fail
                    go_round
                    case rel => exact ⟨k + 1, by have := HK.out; omega, by rw [HNz.out], by go_num, Lib.hid P4.one⟩
                    case measure => have := HK.out; simp [intOf]; omega
            · go_simp
              have P1 := P0.alloc (.cells #[.int .i64 target, .int .i64 act] 3)
              have Q10 := Tide.At.made W0 3 #[.int .i64 target, .int .i64 act]
              refine hK.out _ _ (trKeep P1) (fun hT1 => ?_)
              clear hK K P0
              generalize W0.alloc (.cells #[.int .i64 target, .int .i64 act] 3) = W1 at P1 hT1 Q10 ⊢
              generalize W0.heap.size = b10 at Q10 ⊢
              refine wpAnyH_ready (rs := [1]) (by kernel_rfl) (by simp) (AllReadyH.cons rfl (fun K hK => ?_) AllReadyH.nil)
              · go_simp
                have P2 := P1.alloc (.cells #[.string ⟨#[]⟩, .string ⟨#[108, 97, 103]⟩, .string ⟨#[100, 101, 112, 116, 104]⟩] 9)
                have Q1 := Tide.At.made W1 9 #[.string ⟨#[]⟩, .string ⟨#[108, 97, 103]⟩, .string ⟨#[100, 101, 112, 116, 104]⟩]
                have Q10 := Tide.At.alloc Q10 (.cells #[.string ⟨#[]⟩, .string ⟨#[108, 97, 103]⟩, .string ⟨#[100, 101, 112, 116, 104]⟩] 9)
                refine hK.out _ _ (trKeep P2) (fun hT2 => ?_)
                clear hK K P1
                generalize W1.alloc (.cells #[.string ⟨#[]⟩, .string ⟨#[108, 97, 103]⟩, .string ⟨#[100, 101, 112, 116, 104]⟩] 9) = W2 at P2 hT2 Q1 Q10 ⊢
                generalize W1.heap.size = b1 at Q1 ⊢
                refine wpAnyH_take (i := 4) (v := .pointer (some ⟨b1, 2, none⟩)) rfl (by kernel_rfl) (by kernel_rfl) (by kernel_rfl) (fun _ _ _ h => h) (.inl ⟨by rfl, fun W hW => ?_⟩) hT2 ?_
                · obtain ⟨z0, z1, z2, z3, z4, z5, z6, z7, z8, z9, z10, z11, z12, z13, z14, z15, z16, z17⟩ := hW; go_simp
                simp only [Act.put, List.getElem_toArray, List.getElem_cons_succ, List.getElem_cons_zero, List.setIfInBounds_toArray, List.set_cons_zero, List.set_cons_succ]
                refine wpAnyH_ready (rs := [5]) (by kernel_rfl) (by simp) (AllReadyH.cons rfl (fun K hK => ?_) AllReadyH.nil)
                · have y5 := Q1.here (i := 2) rfl
                  go_simp
                  refine hK.out _ _ (trKeep P2) (fun hT3 => ?_)
                  have P3 := P2
                  clear hK K P2 y5
                  generalize hW : W2 = W3 at P3 hT3 Q10 ⊢
                  refine wpAnyH_ready (rs := [11]) (by kernel_rfl) (by simp) (AllReadyH.cons rfl (fun K hK => ?_) AllReadyH.nil)
                  · go_simp
                    refine (trRow tx _ target act Q10 P3 HDu.out).mono ?_
                    rintro e W4 ⟨rfl, P4⟩
                    go_wp2_with fail
                    refine hK.out _ _ (trKeep P4) (fun hT4 => ?_)
                    clear hK K P3
                    refine wpAnyH_take (i := 12) (v := .string (Y ++ tx)) rfl (by kernel_rfl) (by kernel_rfl) (by kernel_rfl) (fun _ _ _ h => h) (.inl ⟨by rfl, fun W hW => ?_⟩) hT4 ?_
                    · obtain ⟨z0, z1, z2, z3, z4, z5, z6, z7, z8, z9, z10, z11, z12, z13, z14, z15, z16, z17⟩ := hW; go_simp
                    simp only [Act.put, List.getElem_toArray, List.getElem_cons_succ, List.getElem_cons_zero, List.setIfInBounds_toArray, List.set_cons_zero, List.set_cons_succ]
                    refine wpAnyH_take (i := 13) (v := .string (Y ++ tx)) rfl (by kernel_rfl) (by kernel_rfl) (by kernel_rfl) (fun _ _ _ h => h) (.inl ⟨by rfl, fun W hW => ?_⟩) hT4 ?_
                    · obtain ⟨z0, z1, z2, z3, z4, z5, z6, z7, z8, z9, z10, z11, z12, z13, z14, z15, z16, z17⟩ := hW; go_simp
                    simp only [Act.put, List.getElem_toArray, List.getElem_cons_succ, List.getElem_cons_zero, List.setIfInBounds_toArray, List.set_cons_zero, List.set_cons_succ]
                    refine wpAnyH_done (by kernel_rfl) ?_ _
                    go_wp2_with fail
                    go_round
                    case rel => exact ⟨k + 1, by have := HK.out; omega, by rw [HNz.out], by go_num, Lib.hid P4.one⟩
                    case measure => have := HK.out; simp [intOf]; omega
    · obtain rfl : k = ts.length := by omega
      have HAll := Lib.hid (show p.up2 ts.length = p.text by rw [← HTs.out]; exact Pln.up2_all)
      have HBe := Lib.hid HS.out.below
      clear hk hlt
      rw [HAll.out]
      go_wp2_with fail
      go_ret
      exact ⟨rfl, HBe.out⟩
end Go.Proofs.YthelnkoohbnjpaaDoor
