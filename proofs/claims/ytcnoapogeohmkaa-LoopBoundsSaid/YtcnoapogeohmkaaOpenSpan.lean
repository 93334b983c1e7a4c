/- A span among the arguments. -/
import Derived.Test.YtcnoapogeohmkaaOpenCron
import Derived.Test.YtcnoapogeohmkaaSpanC
set_option linter.unusedVariables false
set_option linter.unusedSimpArgs false
namespace Go.Proofs.Ytcnoapogeohmkaa
open Go.ChangeShapes Go.WideShapes Go.ChangeAt Go.RowKit
set_option linter.unusedVariables false
theorem cells_span : Try.prog.cellsOf 63 = 14 := by kernel_rfl
section
variable {H : Type} {enc : TypeId × Value → H} {w : World} {base : Nat} {spare : Nat → Bool} {held : Bool}
set_option maxRecDepth 100000 in
theorem cron_list {fuel : Nat} {x : DataW H × List MemPlace} {c0 c1 c2 c3 c4 c5 c6 : Value} (hf : DataW.trod enc Try.prog w base spare held fuel 61 [c0, c1, c2, c3, c4, c5, c6] = some x) :
    ∃ (a b c d e : Nat) (f g : Bool), c0 = .int .u64 (a : Int) ∧ c1 = .int .u64 (b : Int) ∧ c2 = .int .u64 (c : Int) ∧ c3 = .int .u64 (d : Int) ∧ c4 = .int .u64 (e : Int) ∧ c5 = .bool f ∧ c6 = .bool g ∧ Cr.fits ⟨a, b, c, d, e, f, g⟩ := by
  obtain ⟨xs, n, _, hx, _, hlen, hg⟩ := DataW.trod_struct Try.underlying61 hf
  have one : ∀ (i : Nat) (c : Value), i < 7 → (DataW.trod enc Try.prog w base spare held n 59 [c] = xs[i]?) → ∃ k : Nat, c = .int .u64 (k : Int) ∧ k < 18446744073709551616 := by
    intro i c hi ht
    have hs : xs[i]? = some (xs[i]'(by rw [hlen]; exact hi)) := List.getElem?_eq_getElem _
    obtain ⟨k, hc, _, wf⟩ := DataW.trod_int Try.underlying59 (ht.trans hs)
    obtain ⟨m, rfl, hm⟩ := u64_wf wf
    exact ⟨m, by simpa using hc, hm⟩
  have oneb : ∀ (i : Nat) (c : Value), i < 7 → (DataW.trod enc Try.prog w base spare held n 4 [c] = xs[i]?) → ∃ k : Bool, c = .bool k := by
    intro i c hi ht
    have hs : xs[i]? = some (xs[i]'(by rw [hlen]; exact hi)) := List.getElem?_eq_getElem _
    obtain ⟨k, hc, _⟩ := DataW.trod_bool Try.underlying4 (ht.trans hs)
    exact ⟨k, by simpa using hc⟩
  obtain ⟨k0, h0', h0⟩ := one 0 c0 (by omega) (by simpa [cells_u64] using hg 0 _ rfl)
  obtain ⟨k1, h1', h1⟩ := one 1 c1 (by omega) (by simpa [cells_u64] using hg 1 _ rfl)
  obtain ⟨k2, h2', h2⟩ := one 2 c2 (by omega) (by simpa [cells_u64] using hg 2 _ rfl)
  obtain ⟨k3, h3', h3⟩ := one 3 c3 (by omega) (by simpa [cells_u64] using hg 3 _ rfl)
  obtain ⟨k4, h4', h4⟩ := one 4 c4 (by omega) (by simpa [cells_u64] using hg 4 _ rfl)
  obtain ⟨k5, h5'⟩ := oneb 5 c5 (by omega) (by simpa [cells_bool] using hg 5 _ rfl)
  obtain ⟨k6, h6'⟩ := oneb 6 c6 (by omega) (by simpa [cells_bool] using hg 6 _ rfl)
  exact ⟨k0, k1, k2, k3, k4, k5, k6, h0', h1', h2', h3', h4', h5', h6', ⟨h0, h1, h2, h3, h4⟩⟩
set_option maxRecDepth 100000 in
theorem open_span {r : Reach} {b0 : Nat} {v : Value} {d : DataW H} {p : List MemPlace} (hv : Value.okWide Try.prog w r b0 63 v) (h : DataW.Trod enc Try.prog w base spare held 63 v d p) :
    ∃ (ai ah ad am aw bi bh bd bm bw : Nat) (aa ab ba bb : Bool), Cr.fits ⟨ai, ah, ad, am, aw, aa, ab⟩ ∧ Cr.fits ⟨bi, bh, bd, bm, bw, ba, bb⟩ ∧ v = .agg #[.int .u64 (ai : Int), .int .u64 (ah : Int), .int .u64 (ad : Int), .int .u64 (am : Int), .int .u64 (aw : Int), .bool aa, .bool ab, .int .u64 (bi : Int), .int .u64 (bh : Int), .int .u64 (bd : Int), .int .u64 (bm : Int), .int .u64 (bw : Int), .bool ba, .bool bb] := by
  obtain ⟨cs, rfl, hsz⟩ := okWide_struct Try.underlying63 hv
  obtain ⟨l⟩ := cs
  match l, hsz.trans cells_span with
  | [c0, c1, c2, c3, c4, c5, c6, c7, c8, c9, c10, c11, c12, c13], _ =>
    obtain ⟨fuel, hf⟩ := h
    obtain ⟨xs, n, _, hx, _, hlen, hg⟩ := DataW.trod_struct Try.underlying63 hf
    have s0 : xs[0]? = some (xs[0]'(by rw [hlen]; decide)) := List.getElem?_eq_getElem _
    have s1 : xs[1]? = some (xs[1]'(by rw [hlen]; decide)) := List.getElem?_eq_getElem _
    have t0 : DataW.trod enc Try.prog w base spare held n 61 [c0, c1, c2, c3, c4, c5, c6] = xs[0]? := by simpa [cells_cron, Value.cells] using hg 0 _ rfl
    have t1 : DataW.trod enc Try.prog w base spare held n 61 [c7, c8, c9, c10, c11, c12, c13] = xs[1]? := by simpa [cells_cron, Value.cells] using hg 1 _ rfl
    obtain ⟨ai, ah, ad, am, aw, aa, ab, rfl, rfl, rfl, rfl, rfl, rfl, rfl, f1⟩ := cron_list (t0.trans s0)
    obtain ⟨bi, bh, bd, bm, bw, ba, bb, rfl, rfl, rfl, rfl, rfl, rfl, rfl, f2⟩ := cron_list (t1.trans s1)
    exact ⟨ai, ah, ad, am, aw, bi, bh, bd, bm, bw, aa, ab, ba, bb, f1, f2, rfl⟩
end
end Go.Proofs.Ytcnoapogeohmkaa
