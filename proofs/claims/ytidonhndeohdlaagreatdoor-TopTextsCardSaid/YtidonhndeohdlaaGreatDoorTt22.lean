/- Of the texts OpenTrig, OpenPlan: what this claim reaches. -/
import Derived.SizedLaws
import Derived.Test.YtidonhndeohdlaaGreatDoorTt12
import Derived.Test.YtidonhndeohdlaaGreatDoorTt03
import Derived.Test.YtidonhndeohdlaaGreatDoorTtNeedC
import Derived.Test.YtidonhndeohdlaaGreatDoorTt06
import Derived.Test.YtidonhndeohdlaaGreatDoorTt11
set_option linter.unusedVariables false
set_option linter.unusedSimpArgs false
namespace Go.Proofs.YtidonhndeohdlaaGreatDoor
open Go.ChangeShapes Go.WideShapes Go.ChangeAt Go.RowKit
theorem cells_trig : Tryz.prog.cellsOf 65 = 17 := by kernel_rfl
section
variable {H : Type} {enc : TypeId × Value → H} {w : World} {base : Nat} {spare : Nat → Bool} {held : Bool}
set_option maxRecDepth 100000 in
theorem span_list {fuel : Nat} {x : DataW H × List MemPlace} {c0 c1 c2 c3 c4 c5 c6 c7 c8 c9 c10 c11 c12 c13 : Value} (hf : DataW.trod enc Tryz.prog w base spare held fuel 63 [c0, c1, c2, c3, c4, c5, c6, c7, c8, c9, c10, c11, c12, c13] = some x) :
    ∃ (ai ah ad am aw bi bh bd bm bw : Nat) (aa ab ba bb : Bool), Cr.fits ⟨ai, ah, ad, am, aw, aa, ab⟩ ∧ Cr.fits ⟨bi, bh, bd, bm, bw, ba, bb⟩ ∧ [c0, c1, c2, c3, c4, c5, c6, c7, c8, c9, c10, c11, c12, c13] = [.int .u64 (ai : Int), .int .u64 (ah : Int), .int .u64 (ad : Int), .int .u64 (am : Int), .int .u64 (aw : Int), .bool aa, .bool ab, .int .u64 (bi : Int), .int .u64 (bh : Int), .int .u64 (bd : Int), .int .u64 (bm : Int), .int .u64 (bw : Int), .bool ba, .bool bb] := by
  obtain ⟨xs, n, _, hx, _, hlen, hg⟩ := DataW.trod_struct Tryz.underlying63 hf
  have s0 : xs[0]? = some (xs[0]'(by rw [hlen]; decide)) := List.getElem?_eq_getElem _
  have s1 : xs[1]? = some (xs[1]'(by rw [hlen]; decide)) := List.getElem?_eq_getElem _
  have t0 : DataW.trod enc Tryz.prog w base spare held n 61 [c0, c1, c2, c3, c4, c5, c6] = xs[0]? := by simpa [cells_cron] using hg 0 _ rfl
  have t1 : DataW.trod enc Tryz.prog w base spare held n 61 [c7, c8, c9, c10, c11, c12, c13] = xs[1]? := by simpa [cells_cron] using hg 1 _ rfl
  obtain ⟨ai, ah, ad, am, aw, aa, ab, rfl, rfl, rfl, rfl, rfl, rfl, rfl, f1⟩ := cron_list (t0.trans s0)
  obtain ⟨bi, bh, bd, bm, bw, ba, bb, rfl, rfl, rfl, rfl, rfl, rfl, rfl, f2⟩ := cron_list (t1.trans s1)
  exact ⟨ai, ah, ad, am, aw, bi, bh, bd, bm, bw, aa, ab, ba, bb, f1, f2, rfl⟩
set_option maxRecDepth 100000 in
theorem trig_list {fuel : Nat} {x : DataW H × List MemPlace} {l : List Value} (hl : l.length = 17) (hf : DataW.trod enc Tryz.prog w base spare held fuel 65 l = some x) :
    ∃ (kind target act : Int) (ai ah ad am aw bi bh bd bm bw : Nat) (aa ab ba bb : Bool), Cr.fits ⟨ai, ah, ad, am, aw, aa, ab⟩ ∧ Cr.fits ⟨bi, bh, bd, bm, bw, ba, bb⟩ ∧ (Lit.int .i64 kind).wf = true ∧ (Lit.int .i64 target).wf = true ∧ (Lit.int .i64 act).wf = true ∧
      l = [.int .i64 kind, .int .i64 target, .int .i64 act, .int .u64 (ai : Int), .int .u64 (ah : Int), .int .u64 (ad : Int), .int .u64 (am : Int), .int .u64 (aw : Int), .bool aa, .bool ab, .int .u64 (bi : Int), .int .u64 (bh : Int), .int .u64 (bd : Int), .int .u64 (bm : Int), .int .u64 (bw : Int), .bool ba, .bool bb] := by
  match l, hl with
  | [k0, k1, k2, c0, c1, c2, c3, c4, c5, c6, c7, c8, c9, c10, c11, c12, c13], _ =>
    obtain ⟨xs, n, _, hx, _, hlen, hg⟩ := DataW.trod_struct Tryz.underlying65 hf
    have one : ∀ (i : Nat) (c : Value), i < 4 → (DataW.trod enc Tryz.prog w base spare held n 3 [c] = xs[i]?) → ∃ k : Int, c = .int .i64 k ∧ (Lit.int .i64 k).wf = true := by
      intro i c hi ht
      have hs : xs[i]? = some (xs[i]'(by rw [hlen]; exact hi)) := List.getElem?_eq_getElem _
      obtain ⟨k, hc, _, wf⟩ := DataW.trod_int Tryz.underlying3 (ht.trans hs)
      exact ⟨k, by simpa using hc, wf⟩
    obtain ⟨a0, rfl, w0⟩ := one 0 k0 (by omega) (by simpa [rows_cells_int] using hg 0 _ rfl)
    obtain ⟨a1, rfl, w1⟩ := one 1 k1 (by omega) (by simpa [rows_cells_int] using hg 1 _ rfl)
    obtain ⟨a2, rfl, w2⟩ := one 2 k2 (by omega) (by simpa [rows_cells_int] using hg 2 _ rfl)
    have s3 : xs[3]? = some (xs[3]'(by rw [hlen]; decide)) := List.getElem?_eq_getElem _
    have t3 : DataW.trod enc Tryz.prog w base spare held n 63 [c0, c1, c2, c3, c4, c5, c6, c7, c8, c9, c10, c11, c12, c13] = xs[3]? := by simpa [cells_span, rows_cells_int] using hg 3 _ rfl
    obtain ⟨ai, ah, ad, am, aw, bi, bh, bd, bm, bw, aa, ab, ba, bb, f1, f2, e⟩ := span_list (t3.trans s3)
    exact ⟨a0, a1, a2, ai, ah, ad, am, aw, bi, bh, bd, bm, bw, aa, ab, ba, bb, f1, f2, w0, w1, w2, by rw [e]⟩
end
open Go.ChangeShapes Go.WideShapes Go.ChangeAt Go.RowKit
theorem cells_plan : Tryz.prog.cellsOf 26 = 18 := by kernel_rfl
theorem cells_pace4 : Tryz.prog.cellsOf 23 = 4 := by kernel_rfl
theorem cells_string1 : Tryz.prog.cellsOf 9 = 1 := by kernel_rfl
theorem cells_trigs : Tryz.prog.cellsOf 24 = 1 := by kernel_rfl
section
variable {H : Type} {enc : TypeId × Value → H} {w : World} {base : Nat} {spare : Nat → Bool} {held : Bool}
theorem pace_list {fuel : Nat} {x : DataW H × List MemPlace} {c0 c1 c2 c3 : Value} (hf : DataW.trod enc Tryz.prog w base spare held fuel 23 [c0, c1, c2, c3] = some x) :
    ∃ a b c d : Int, [c0, c1, c2, c3] = [.int .i64 a, .int .i64 b, .int .i64 c, .int .i64 d] := by
  obtain ⟨xs, n, _, hx, _, hlen, hg⟩ := DataW.trod_struct Tryz.underlying23 hf
  have one : ∀ (i : Nat) (c : Value), i < 4 → (DataW.trod enc Tryz.prog w base spare held n 3 [c] = xs[i]?) → ∃ k : Int, c = .int .i64 k := by
    intro i c hi ht
    have hs : xs[i]? = some (xs[i]'(by rw [hlen]; exact hi)) := List.getElem?_eq_getElem _
    obtain ⟨k, hc, _, _⟩ := DataW.trod_int Tryz.underlying3 (ht.trans hs)
    exact ⟨k, by simpa using hc⟩
  obtain ⟨k0, rfl⟩ := one 0 c0 (by omega) (by simpa [rows_cells_int, Value.cells] using hg 0 _ rfl)
  obtain ⟨k1, rfl⟩ := one 1 c1 (by omega) (by simpa [rows_cells_int, Value.cells] using hg 1 _ rfl)
  obtain ⟨k2, rfl⟩ := one 2 c2 (by omega) (by simpa [rows_cells_int, Value.cells] using hg 2 _ rfl)
  obtain ⟨k3, rfl⟩ := one 3 c3 (by omega) (by simpa [rows_cells_int, Value.cells] using hg 3 _ rfl)
  exact ⟨k0, k1, k2, k3, rfl⟩
theorem trigs_list {fuel : Nat} {c : Value} {x : DataW H × List MemPlace} (hf : DataW.trod enc Tryz.prog w base spare held fuel 24 [c] = some x) :
    ∃ (l : List Trg) (A : Option Addr) (cap : Nat), c = .slice A l.length cap ∧ l.length ≤ cap ∧ cap ≤ maxLen ∧ (∀ t ∈ l, t.fits) ∧ Tide.ListIn w 17 Trg.enc c l := by
  have h1 : ∃ a len cap, c = .slice a len cap := by
    rcases Go.Deep.open_slice Tryz.underlying24 hf with ⟨hcs, _⟩ | ⟨a, len, cap, _, _, _, _, hcs, _⟩
    · exact ⟨none, 0, 0, by simpa using hcs⟩
    · exact ⟨some a, len, cap, by simpa using hcs⟩
  refine open_list Tryz.underlying24 cells_trig (by decide) Trg.enc_length (fun n cs y hl hy => ?_) h1 (d := x.1) (p := x.2) ⟨fuel, by obtain ⟨a, len, cap, rfl⟩ := h1; simpa [Value.cells] using hf⟩
  obtain ⟨kind, target, act, ai, ah, ad, am, aw, bi, bh, bd, bm, bw, aa, ab, ba, bb, f1, f2, _, _, _, e⟩ := trig_list hl hy
  exact ⟨⟨kind, target, act, ⟨ai, ah, ad, am, aw, aa, ab⟩, ⟨bi, bh, bd, bm, bw, ba, bb⟩⟩, e, f1, f2⟩
set_option maxRecDepth 100000 in
set_option maxHeartbeats 1600000 in
theorem plan_list {fuel : Nat} {x : DataW H × List MemPlace} {l : List Value} (hl : l.length = 18) (hf : DataW.trod enc Tryz.prog w base spare held fuel 26 l = some x) :
    ∃ (p : Pln) (A : Option Addr) (cap : Nat), l = (plnC p (.slice A p.trigs.length cap)).toList ∧ p.trigs.length ≤ cap ∧ cap ≤ maxLen ∧ (∀ t ∈ p.trigs, t.fits) ∧ p.name.size ≤ maxLen ∧ Tide.ListIn w 17 Trg.enc (.slice A p.trigs.length cap) p.trigs := by
  match l, hl with
  | [s0, k1, k2, k3, k4, k5, k6, k7, k8, u0, u1, u2, u3, d0, d1, d2, d3, tv], _ =>
    obtain ⟨xs, n, _, hx, _, hlen, hg⟩ := DataW.trod_struct Tryz.underlying26 hf
    have one : ∀ (i : Nat) (c : Value), i < 12 → (DataW.trod enc Tryz.prog w base spare held n 3 [c] = xs[i]?) → ∃ k : Int, c = .int .i64 k := by
      intro i c hi ht
      have hs : xs[i]? = some (xs[i]'(by rw [hlen]; exact hi)) := List.getElem?_eq_getElem _
      obtain ⟨k, hc, _, wf⟩ := DataW.trod_int Tryz.underlying3 (ht.trans hs)
      exact ⟨k, by simpa using hc⟩
    have x0 : xs[0]? = some (xs[0]'(by rw [hlen]; decide)) := List.getElem?_eq_getElem _
    have t0 : DataW.trod enc Tryz.prog w base spare held n 9 [s0] = xs[0]? := by simpa [cells_string1] using hg 0 _ rfl
    obtain ⟨name, hs0, _, hnm⟩ := DataW.trod_string Tryz.underlying9 (t0.trans x0)
    obtain rfl : s0 = .string name := by simpa using hs0
    obtain ⟨a1, rfl⟩ := one 1 k1 (by omega) (by simpa [cells_string1, rows_cells_int] using hg 1 _ rfl)
    obtain ⟨a2, rfl⟩ := one 2 k2 (by omega) (by simpa [cells_string1, rows_cells_int] using hg 2 _ rfl)
    obtain ⟨a3, rfl⟩ := one 3 k3 (by omega) (by simpa [cells_string1, rows_cells_int] using hg 3 _ rfl)
    obtain ⟨a4, rfl⟩ := one 4 k4 (by omega) (by simpa [cells_string1, rows_cells_int] using hg 4 _ rfl)
    obtain ⟨a5, rfl⟩ := one 5 k5 (by omega) (by simpa [cells_string1, rows_cells_int] using hg 5 _ rfl)
    obtain ⟨a6, rfl⟩ := one 6 k6 (by omega) (by simpa [cells_string1, rows_cells_int] using hg 6 _ rfl)
    obtain ⟨a7, rfl⟩ := one 7 k7 (by omega) (by simpa [cells_string1, rows_cells_int] using hg 7 _ rfl)
    obtain ⟨a8, rfl⟩ := one 8 k8 (by omega) (by simpa [cells_string1, rows_cells_int] using hg 8 _ rfl)
    have x9 : xs[9]? = some (xs[9]'(by rw [hlen]; decide)) := List.getElem?_eq_getElem _
    have x10 : xs[10]? = some (xs[10]'(by rw [hlen]; decide)) := List.getElem?_eq_getElem _
    have x11 : xs[11]? = some (xs[11]'(by rw [hlen]; decide)) := List.getElem?_eq_getElem _
    have t9 : DataW.trod enc Tryz.prog w base spare held n 23 [u0, u1, u2, u3] = xs[9]? := by simpa [cells_string1, rows_cells_int, cells_pace4] using hg 9 _ rfl
    have t10 : DataW.trod enc Tryz.prog w base spare held n 23 [d0, d1, d2, d3] = xs[10]? := by simpa [cells_string1, rows_cells_int, cells_pace4] using hg 10 _ rfl
    have t11 : DataW.trod enc Tryz.prog w base spare held n 24 [tv] = xs[11]? := by simpa [cells_string1, rows_cells_int, cells_pace4, cells_trigs] using hg 11 _ rfl
    obtain ⟨b0, b1, b2, b3, e9⟩ := pace_list (t9.trans x9)
    obtain ⟨c0, c1, c2, c3, e10⟩ := pace_list (t10.trans x10)
    obtain ⟨ts, A, cap, rfl, h1, h2, h3, h4⟩ := trigs_list (t11.trans x11)
    cases e9
    cases e10
    exact ⟨⟨name, a1, a2, a3, a4, a5, a6, a7, a8, ⟨b0, b1, b2, b3⟩, ⟨c0, c1, c2, c3⟩, ts⟩, A, cap, rfl, h1, h2, h3, hnm, h4⟩
set_option maxRecDepth 100000 in
theorem open_plan {r : Reach} {b0 : Nat} {v : Value} {d : DataW H} {q : List MemPlace} (hv : Value.okWide Tryz.prog w r b0 26 v) (h : DataW.Trod enc Tryz.prog w base spare held 26 v d q) :
    ∃ (p : Pln) (A : Option Addr) (cap : Nat), v = plnV p (.slice A p.trigs.length cap) ∧ p.trigs.length ≤ cap ∧ cap ≤ maxLen ∧ (∀ t ∈ p.trigs, t.fits) ∧ p.name.size ≤ maxLen ∧ Tide.ListIn w 17 Trg.enc (.slice A p.trigs.length cap) p.trigs := by
  obtain ⟨cs, rfl, hsz⟩ := okWide_struct Tryz.underlying26 hv
  obtain ⟨l⟩ := cs
  obtain ⟨fuel, hf⟩ := h
  obtain ⟨p, A, cap, e, h1⟩ := plan_list (by simpa using hsz.trans cells_plan) (by simpa [Value.cells] using hf)
  exact ⟨p, A, cap, by rw [e]; rfl, h1⟩
end
end Go.Proofs.YtidonhndeohdlaaGreatDoor
