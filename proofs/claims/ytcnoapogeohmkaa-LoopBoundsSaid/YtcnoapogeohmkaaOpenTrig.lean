/- A trigger among the arguments; a list of integers whose room is known. -/
import Derived.Test.YtcnoapogeohmkaaOpenSpan
import Derived.Test.YtcnoapogeohmkaaOpenInts
import Derived.Test.YtcnoapogeohmkaaNeedC
import Derived.SizedLaws
set_option linter.unusedVariables false
set_option linter.unusedSimpArgs false
namespace Go.Proofs.Ytcnoapogeohmkaa
open Go.ChangeShapes Go.WideShapes Go.ChangeAt Go.RowKit
set_option linter.unusedVariables false
theorem cells_trig : Try.prog.cellsOf 65 = 17 := by kernel_rfl
section
variable {H : Type} {enc : TypeId × Value → H} {w : World} {base : Nat} {spare : Nat → Bool} {held : Bool}
set_option maxRecDepth 100000 in
theorem span_list {fuel : Nat} {x : DataW H × List MemPlace} {c0 c1 c2 c3 c4 c5 c6 c7 c8 c9 c10 c11 c12 c13 : Value} (hf : DataW.trod enc Try.prog w base spare held fuel 63 [c0, c1, c2, c3, c4, c5, c6, c7, c8, c9, c10, c11, c12, c13] = some x) :
    ∃ (ai ah ad am aw bi bh bd bm bw : Nat) (aa ab ba bb : Bool), Cr.fits ⟨ai, ah, ad, am, aw, aa, ab⟩ ∧ Cr.fits ⟨bi, bh, bd, bm, bw, ba, bb⟩ ∧ [c0, c1, c2, c3, c4, c5, c6, c7, c8, c9, c10, c11, c12, c13] = [.int .u64 (ai : Int), .int .u64 (ah : Int), .int .u64 (ad : Int), .int .u64 (am : Int), .int .u64 (aw : Int), .bool aa, .bool ab, .int .u64 (bi : Int), .int .u64 (bh : Int), .int .u64 (bd : Int), .int .u64 (bm : Int), .int .u64 (bw : Int), .bool ba, .bool bb] := by
  obtain ⟨xs, n, _, hx, _, hlen, hg⟩ := DataW.trod_struct Try.underlying63 hf
  have s0 : xs[0]? = some (xs[0]'(by rw [hlen]; decide)) := List.getElem?_eq_getElem _
  have s1 : xs[1]? = some (xs[1]'(by rw [hlen]; decide)) := List.getElem?_eq_getElem _
  have t0 : DataW.trod enc Try.prog w base spare held n 61 [c0, c1, c2, c3, c4, c5, c6] = xs[0]? := by simpa [cells_cron] using hg 0 _ rfl
  have t1 : DataW.trod enc Try.prog w base spare held n 61 [c7, c8, c9, c10, c11, c12, c13] = xs[1]? := by simpa [cells_cron] using hg 1 _ rfl
  obtain ⟨ai, ah, ad, am, aw, aa, ab, rfl, rfl, rfl, rfl, rfl, rfl, rfl, f1⟩ := cron_list (t0.trans s0)
  obtain ⟨bi, bh, bd, bm, bw, ba, bb, rfl, rfl, rfl, rfl, rfl, rfl, rfl, f2⟩ := cron_list (t1.trans s1)
  exact ⟨ai, ah, ad, am, aw, bi, bh, bd, bm, bw, aa, ab, ba, bb, f1, f2, rfl⟩
set_option maxRecDepth 100000 in
theorem trig_list {fuel : Nat} {x : DataW H × List MemPlace} {l : List Value} (hl : l.length = 17) (hf : DataW.trod enc Try.prog w base spare held fuel 65 l = some x) :
    ∃ (kind target act : Int) (ai ah ad am aw bi bh bd bm bw : Nat) (aa ab ba bb : Bool), Cr.fits ⟨ai, ah, ad, am, aw, aa, ab⟩ ∧ Cr.fits ⟨bi, bh, bd, bm, bw, ba, bb⟩ ∧ (Lit.int .i64 kind).wf = true ∧ (Lit.int .i64 target).wf = true ∧ (Lit.int .i64 act).wf = true ∧
      l = [.int .i64 kind, .int .i64 target, .int .i64 act, .int .u64 (ai : Int), .int .u64 (ah : Int), .int .u64 (ad : Int), .int .u64 (am : Int), .int .u64 (aw : Int), .bool aa, .bool ab, .int .u64 (bi : Int), .int .u64 (bh : Int), .int .u64 (bd : Int), .int .u64 (bm : Int), .int .u64 (bw : Int), .bool ba, .bool bb] := by
  match l, hl with
  | [k0, k1, k2, c0, c1, c2, c3, c4, c5, c6, c7, c8, c9, c10, c11, c12, c13], _ =>
    obtain ⟨xs, n, _, hx, _, hlen, hg⟩ := DataW.trod_struct Try.underlying65 hf
    have one : ∀ (i : Nat) (c : Value), i < 4 → (DataW.trod enc Try.prog w base spare held n 3 [c] = xs[i]?) → ∃ k : Int, c = .int .i64 k ∧ (Lit.int .i64 k).wf = true := by
      intro i c hi ht
      have hs : xs[i]? = some (xs[i]'(by rw [hlen]; exact hi)) := List.getElem?_eq_getElem _
      obtain ⟨k, hc, _, wf⟩ := DataW.trod_int Try.underlying3 (ht.trans hs)
      exact ⟨k, by simpa using hc, wf⟩
    obtain ⟨a0, rfl, w0⟩ := one 0 k0 (by omega) (by simpa [rows_cells_int] using hg 0 _ rfl)
    obtain ⟨a1, rfl, w1⟩ := one 1 k1 (by omega) (by simpa [rows_cells_int] using hg 1 _ rfl)
    obtain ⟨a2, rfl, w2⟩ := one 2 k2 (by omega) (by simpa [rows_cells_int] using hg 2 _ rfl)
    have s3 : xs[3]? = some (xs[3]'(by rw [hlen]; decide)) := List.getElem?_eq_getElem _
    have t3 : DataW.trod enc Try.prog w base spare held n 63 [c0, c1, c2, c3, c4, c5, c6, c7, c8, c9, c10, c11, c12, c13] = xs[3]? := by simpa [cells_span, rows_cells_int] using hg 3 _ rfl
    obtain ⟨ai, ah, ad, am, aw, bi, bh, bd, bm, bw, aa, ab, ba, bb, f1, f2, e⟩ := span_list (t3.trans s3)
    exact ⟨a0, a1, a2, ai, ah, ad, am, aw, bi, bh, bd, bm, bw, aa, ab, ba, bb, f1, f2, w0, w1, w2, by rw [e]⟩
set_option maxRecDepth 100000 in
theorem open_trig {r : Reach} {b0 : Nat} {v : Value} {d : DataW H} {p : List MemPlace} (hv : Value.okWide Try.prog w r b0 65 v) (h : DataW.Trod enc Try.prog w base spare held 65 v d p) :
    ∃ (kind target act : Int) (ai ah ad am aw bi bh bd bm bw : Nat) (aa ab ba bb : Bool), Cr.fits ⟨ai, ah, ad, am, aw, aa, ab⟩ ∧ Cr.fits ⟨bi, bh, bd, bm, bw, ba, bb⟩ ∧ (Lit.int .i64 kind).wf = true ∧ (Lit.int .i64 target).wf = true ∧ (Lit.int .i64 act).wf = true ∧
      v = .agg #[.int .i64 kind, .int .i64 target, .int .i64 act, .int .u64 (ai : Int), .int .u64 (ah : Int), .int .u64 (ad : Int), .int .u64 (am : Int), .int .u64 (aw : Int), .bool aa, .bool ab, .int .u64 (bi : Int), .int .u64 (bh : Int), .int .u64 (bd : Int), .int .u64 (bm : Int), .int .u64 (bw : Int), .bool ba, .bool bb] := by
  obtain ⟨cs, rfl, hsz⟩ := okWide_struct Try.underlying65 hv
  obtain ⟨l⟩ := cs
  obtain ⟨fuel, hf⟩ := h
  obtain ⟨kind, target, act, ai, ah, ad, am, aw, bi, bh, bd, bm, bw, aa, ab, ba, bb, f1, f2, w0, w1, w2, e⟩ := trig_list (by simpa using hsz.trans cells_trig) (by simpa [Value.cells] using hf)
  exact ⟨kind, target, act, ai, ah, ad, am, aw, bi, bh, bd, bm, bw, aa, ab, ba, bb, f1, f2, w0, w1, w2, by rw [e]⟩
set_option maxRecDepth 100000 in
/-- a list of integers, as package need reads it -/
theorem open_nums {r : Reach} {b0 : Nat} {v : Value} {d : DataW H} {p : List MemPlace} (hv : Value.okWide Try.prog w r b0 27 v) (h : DataW.Trod enc Try.prog w base spare held 27 v d p) :
    ∃ (A : Option Addr) (cap : Nat) (xs : List Int), NumsIn w A xs ∧ xs.length ≤ cap ∧ cap ≤ 9223372036854775807 ∧ (∀ x ∈ xs, -9223372036854775808 ≤ x ∧ x ≤ 9223372036854775807) ∧ v = .slice A xs.length cap := by
  obtain ⟨l, A, cap, rfl, h1, h2, h3, h4⟩ := open_intl hv h
  have e : ∀ (i : Nat) (hi : i < l.length), l[i] = [l[i].headD 0] := fun i hi => by
    have := (h3 _ (List.getElem_mem hi)).1
    match l[i], this with
    | [x], _ => rfl
  refine ⟨A, cap, l.map (fun row => row.headD 0), fun h0 => ?_, by simpa using h1, by simpa [maxLen] using h2, fun x hx => ?_, by simp⟩
  · obtain ⟨b, off, e1, e2, e3⟩ := h4 (by simpa using h0)
    refine ⟨b, off, e1, e2, fun i x hx => ?_⟩
    have hi : i < l.length := by
      rcases Nat.lt_or_ge i l.length with q | q
      · exact q
      · rw [List.getElem?_eq_none (by simpa using q)] at hx; cases hx
    have hx' : x = l[i].headD 0 := by
      rw [List.getElem?_map, List.getElem?_eq_getElem hi] at hx
      simpa using hx.symm
    have := e3 i _ 0 x (List.getElem?_eq_getElem hi) (by rw [e i hi, hx']; rfl)
    simpa using this
  · obtain ⟨row, hr, rfl⟩ := List.mem_map.1 hx
    have hh := h3 row hr
    match row, hh with
    | [x], hh => exact hh.2 x (by simp)
end
end Go.Proofs.Ytcnoapogeohmkaa
