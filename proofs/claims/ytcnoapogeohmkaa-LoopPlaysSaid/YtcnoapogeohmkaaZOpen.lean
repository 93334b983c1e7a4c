/- A slice among the arguments, whatever its elements: a list in memory. A cron that comes in: five sets, two bools. A span among the arguments. A trigger among the arguments; a list of integers whose room is known. A plan among the arguments. A reading among the arguments: whether it failed, and a list of integers. A list of glances among the arguments: each with a list of readings. -/
import Derived.Test.YtcnoapogeohmkaaZBase
import Derived.Test.YtcnoapogeohmkaaRows
import Derived.Handy
import Derived.Test.YtcnoapogeohmkaaZCron
import Derived.Test.YtcnoapogeohmkaaZSpan
import Derived.Test.YtcnoapogeohmkaaNeedC
import Derived.SizedLaws
import Derived.Test.YtcnoapogeohmkaaZPln
import Derived.Test.YtcnoapogeohmkaaZLopB

set_option linter.unusedVariables false
set_option linter.unusedSimpArgs false
namespace Go.Proofs.Ytcnoapogeohmkaa
open Go.ChangeShapes Go.WideShapes Go.ChangeAt Go.RowKit Go.Deep
section
variable {H : Type} {enc : TypeId × Value → H} {w : World} {base : Nat} {spare : Nat → Bool} {held : Bool}
set_option maxRecDepth 100000 in
set_option maxHeartbeats 400000 in
theorem open_list {α : Type} {en : α → List Value} {Q : α → Prop} {t e : TypeId} {k : Nat} {v : Value} {d : DataW H} {p : List MemPlace} (ht : Try.prog.underlying t = some (.slice e)) (hC : Try.prog.cellsOf e = k) (hk : 0 < k) (hen : ∀ a, (en a).length = k)
    (helem : ∀ (n : Nat) (cs : List Value) (y : DataW H × List MemPlace), cs.length = k → DataW.trod enc Try.prog w base spare held n e cs = some y → ∃ a : α, cs = en a ∧ Q a)
    (h1 : ∃ a len cap, v = .slice a len cap) (h : DataW.Trod enc Try.prog w base spare held t v d p) : ∃ (l : List α) (A : Option Addr) (cap : Nat), v = .slice A l.length cap ∧ l.length ≤ cap ∧ cap ≤ maxLen ∧ (∀ a ∈ l, Q a) ∧ Tide.ListIn w k en v l := by
  obtain ⟨a0, len0, cap0, e1⟩ := h1
  subst e1
  obtain ⟨fuel, hf⟩ := h
  rcases open_slice ht hf with ⟨hcs, hx⟩ | ⟨a, len, cap, m, n, D, Pl, hcs, hb, hl, hm, hmm, hx, hi⟩
  · simp [Value.cells] at hcs
    obtain ⟨rfl, rfl, rfl⟩ := hcs
    exact ⟨[], none, 0, rfl, Nat.le_refl 0, Nat.zero_le maxLen, fun row hr => absurd hr (by simp), none, 0, rfl, fun h0 => absurd h0 (by simp)⟩
  · simp [Value.cells] at hcs
    obtain ⟨rfl, rfl, rfl⟩ := hcs
    have hlm : len0 ≤ m := by rw [hmm]; split <;> omega
    have hrow : ∀ i, i < len0 → ∃ x : α, Q x ∧ ∀ j u, (en x)[j]? = some u → w.cell? (a.add (i * k + j)) = some u := by
      intro i hlt
      obtain ⟨cs', hc, ht'⟩ := hi i (by omega)
      rw [hC] at hc
      obtain ⟨_, hcl, hat⟩ := World.cells?_some hc
      obtain ⟨x, hx1, hq⟩ := helem n cs' _ hcl ht'
      refine ⟨x, hq, fun j u hj => ?_⟩
      have hjl : j < k := by
        rw [← hen x]
        rcases Nat.lt_or_ge j (en x).length with hl' | hl'
        · exact hl'
        · rw [List.getElem?_eq_none hl'] at hj; cases hj
      rw [← Go.Deep.add_add, hat j hjl]
      rw [hx1]; exact hj
    obtain ⟨f, hf'⟩ : ∃ f : Fin len0 → α, ∀ i : Fin len0, Q (f i) ∧ ∀ j u, (en (f i))[j]? = some u → w.cell? (a.add (i.1 * k + j)) = some u :=
      ⟨fun i => Classical.choose (hrow i.1 i.2), fun i => Classical.choose_spec (hrow i.1 i.2)⟩
    have hlen : (List.ofFn f).length = len0 := by simp
    refine ⟨List.ofFn f, some a, cap0, by rw [hlen], by rw [hlen]; simpa using hl, hm, ?_, some a, cap0, by rw [hlen], ?_⟩
    · intro x hx
      obtain ⟨i, rfl⟩ := List.mem_ofFn.1 hx
      exact (hf' i).1
    · intro h0
      rw [hlen] at h0
      have hz : 0 < (en (f ⟨0, h0⟩)).length := by rw [hen]; exact hk
      have hc0 : w.cell? (a.add (0 * k + 0)) = some ((en (f ⟨0, h0⟩))[0]'hz) := (hf' ⟨0, h0⟩).2 0 _ (List.getElem?_eq_getElem _)
      have hs : a.spot = none := by
        have := cell_spot hc0
        simpa [Addr.add] using this
      obtain ⟨b, off, sp⟩ := a
      simp only at hs
      subst hs
      refine ⟨b, off, rfl, ?_, ?_⟩
      · have := World.block_lt_of_cell? w _ hc0
        simpa [Addr.add] using this
      · intro i x j u h1 h2
        have hlt : i < len0 := by
          rw [← hlen]
          rcases Nat.lt_or_ge i (List.ofFn f).length with hl' | hl'
          · exact hl'
          · rw [List.getElem?_eq_none hl'] at h1; cases h1
        rw [List.getElem?_ofFn, dif_pos hlt] at h1
        cases h1
        have := (hf' ⟨i, hlt⟩).2 j u h2
        rw [← this]
        unfold Addr.add
        congr 1
        by_cases h3 : i * k = 0 <;> by_cases h4 : j = 0 <;> simp [h3, h4, Nat.add_assoc]
end
end Go.Proofs.Ytcnoapogeohmkaa


namespace Go.Proofs.Ytcnoapogeohmkaa
open Go.ChangeShapes Go.WideShapes Go.ChangeAt Go.RowKit
set_option maxRecDepth 100000 in
theorem cells_u64 : Try.prog.cellsOf 59 = 1 := by kernel_rfl
set_option maxRecDepth 100000 in
theorem cells_bool : Try.prog.cellsOf 4 = 1 := by kernel_rfl
set_option maxRecDepth 100000 in
theorem cells_cron : Try.prog.cellsOf 61 = 7 := by kernel_rfl
set_option maxRecDepth 100000 in
theorem u64_wf {k : Int} (h : (Lit.int .u64 k).wf = true) : ∃ n : Nat, k = (n : Int) ∧ n < 18446744073709551616 := by
  have h1 := bounds_u64 h
  exact ⟨k.toNat, by omega, by omega⟩
section
variable {H : Type} {enc : TypeId × Value → H} {w : World} {base : Nat} {spare : Nat → Bool} {held : Bool}
set_option maxRecDepth 100000 in
theorem open_cron {r : Reach} {b0 : Nat} {v : Value} {d : DataW H} {p : List MemPlace} (hv : Value.okWide Try.prog w r b0 61 v) (h : DataW.Trod enc Try.prog w base spare held 61 v d p) :
    ∃ c : Cr, c.fits ∧ v = .agg c.cells := by
  obtain ⟨cs, rfl, hsz⟩ := okWide_struct Try.underlying61 hv
  obtain ⟨l⟩ := cs
  match l, hsz.trans cells_cron with
  | [c0, c1, c2, c3, c4, c5, c6], _ =>
    obtain ⟨fuel, hf⟩ := h
    obtain ⟨xs, n, _, hx, _, hlen, hg⟩ := DataW.trod_struct Try.underlying61 hf
    have one : ∀ (i : Nat) (c : Value), i < 7 → (DataW.trod enc Try.prog w base spare held n 59 [c] = xs[i]?) → ∃ k : Nat, c = .int .u64 (k : Int) ∧ k < 18446744073709551616 := by
      intro i c hi ht
      have hs : xs[i]? = some (xs[i]'(by rw [hlen]; exact hi)) := List.getElem?_eq_getElem _
      obtain ⟨k, hc, _, wf⟩ := DataW.trod_int Try.underlying59 (ht.trans hs)
      obtain ⟨m, rfl, hm⟩ := u64_wf wf
      exact ⟨m, by simpa using hc, hm⟩
    have oneb : ∀ (i : Nat) (c : Value), i < 7 → (DataW.trod enc Try.prog w base spare held n 4 [c] = xs[i]?) → ∃ k : Bool, c = .bool k := by
      intro i c hi ht
      have hs : xs[i]? = some (xs[i]'(by rw [hlen]; exact hi)) := List.getElem?_eq_getElem _
      obtain ⟨k, hc, _⟩ := DataW.trod_bool Try.underlying4 (ht.trans hs)
      exact ⟨k, by simpa using hc⟩
    obtain ⟨k0, rfl, h0⟩ := one 0 c0 (by omega) (by simpa [cells_u64, Value.cells] using hg 0 _ rfl)
    obtain ⟨k1, rfl, h1⟩ := one 1 c1 (by omega) (by simpa [cells_u64, Value.cells] using hg 1 _ rfl)
    obtain ⟨k2, rfl, h2⟩ := one 2 c2 (by omega) (by simpa [cells_u64, Value.cells] using hg 2 _ rfl)
    obtain ⟨k3, rfl, h3⟩ := one 3 c3 (by omega) (by simpa [cells_u64, Value.cells] using hg 3 _ rfl)
    obtain ⟨k4, rfl, h4⟩ := one 4 c4 (by omega) (by simpa [cells_u64, Value.cells] using hg 4 _ rfl)
    obtain ⟨k5, rfl⟩ := oneb 5 c5 (by omega) (by simpa [cells_bool, Value.cells] using hg 5 _ rfl)
    obtain ⟨k6, rfl⟩ := oneb 6 c6 (by omega) (by simpa [cells_bool, Value.cells] using hg 6 _ rfl)
    exact ⟨⟨k0, k1, k2, k3, k4, k5, k6⟩, ⟨h0, h1, h2, h3, h4⟩, rfl⟩
end
end Go.Proofs.Ytcnoapogeohmkaa


namespace Go.Proofs.Ytcnoapogeohmkaa
open Go.ChangeShapes Go.WideShapes Go.ChangeAt Go.RowKit
set_option linter.unusedVariables false
theorem cells_span : Try.prog.cellsOf 63 = 14 := by kernel_rfl
section
variable {H : Type} {enc : TypeId × Value → H} {w : World} {base : Nat} {spare : Nat → Bool} {held : Bool}
set_option maxRecDepth 100000 in
theorem cron_list {fuel : Nat} {x : DataW H × List MemPlace} {c0 c1 c2 c3 c4 c5 c6 : Value} (hf : DataW.trod enc Try.prog w base spare held fuel 61 [c0, c1, c2, c3, c4, c5, c6] = some x) :
    ∃ (a b c d e : Nat) (f g : Bool), c0 = .int .u64 (a : Int) ∧ c1 = .int .u64 (b : Int) ∧ c2 = .int .u64 (c : Int) ∧ c3 = .int .u64 (d : Int) ∧ c4 = .int .u64 (e : Int) ∧ c5 = .bool f ∧ c6 = .bool g ∧ Cr.fits ⟨a, b, c, d, e, f, g⟩ := by
  obtain ⟨xs, n, _, hx, _, hlen, hg⟩ := DataW.trod_struct Try.underlying61 hf
  have one : ∀ (i : Nat) (c : Value), i < 7 → (DataW.trod enc Try.prog w base spare held n 59 [c] = xs[i]?) → ∃ k : Nat, c = .int .u64 (k : Int) ∧ k < 18446744073709551616 := by
    intro i c hi ht
    have hs : xs[i]? = some (xs[i]'(by rw [hlen]; exact hi)) := List.getElem?_eq_getElem _
    obtain ⟨k, hc, _, wf⟩ := DataW.trod_int Try.underlying59 (ht.trans hs)
    obtain ⟨m, rfl, hm⟩ := u64_wf wf
    exact ⟨m, by simpa using hc, hm⟩
  have oneb : ∀ (i : Nat) (c : Value), i < 7 → (DataW.trod enc Try.prog w base spare held n 4 [c] = xs[i]?) → ∃ k : Bool, c = .bool k := by
    intro i c hi ht
    have hs : xs[i]? = some (xs[i]'(by rw [hlen]; exact hi)) := List.getElem?_eq_getElem _
    obtain ⟨k, hc, _⟩ := DataW.trod_bool Try.underlying4 (ht.trans hs)
    exact ⟨k, by simpa using hc⟩
  obtain ⟨k0, h0', h0⟩ := one 0 c0 (by omega) (by simpa [cells_u64] using hg 0 _ rfl)
  obtain ⟨k1, h1', h1⟩ := one 1 c1 (by omega) (by simpa [cells_u64] using hg 1 _ rfl)
  obtain ⟨k2, h2', h2⟩ := one 2 c2 (by omega) (by simpa [cells_u64] using hg 2 _ rfl)
  obtain ⟨k3, h3', h3⟩ := one 3 c3 (by omega) (by simpa [cells_u64] using hg 3 _ rfl)
  obtain ⟨k4, h4', h4⟩ := one 4 c4 (by omega) (by simpa [cells_u64] using hg 4 _ rfl)
  obtain ⟨k5, h5'⟩ := oneb 5 c5 (by omega) (by simpa [cells_bool] using hg 5 _ rfl)
  obtain ⟨k6, h6'⟩ := oneb 6 c6 (by omega) (by simpa [cells_bool] using hg 6 _ rfl)
  exact ⟨k0, k1, k2, k3, k4, k5, k6, h0', h1', h2', h3', h4', h5', h6', ⟨h0, h1, h2, h3, h4⟩⟩
set_option maxRecDepth 100000 in
theorem open_span {r : Reach} {b0 : Nat} {v : Value} {d : DataW H} {p : List MemPlace} (hv : Value.okWide Try.prog w r b0 63 v) (h : DataW.Trod enc Try.prog w base spare held 63 v d p) :
    ∃ (ai ah ad am aw bi bh bd bm bw : Nat) (aa ab ba bb : Bool), Cr.fits ⟨ai, ah, ad, am, aw, aa, ab⟩ ∧ Cr.fits ⟨bi, bh, bd, bm, bw, ba, bb⟩ ∧ v = .agg #[.int .u64 (ai : Int), .int .u64 (ah : Int), .int .u64 (ad : Int), .int .u64 (am : Int), .int .u64 (aw : Int), .bool aa, .bool ab, .int .u64 (bi : Int), .int .u64 (bh : Int), .int .u64 (bd : Int), .int .u64 (bm : Int), .int .u64 (bw : Int), .bool ba, .bool bb] := by
  obtain ⟨cs, rfl, hsz⟩ := okWide_struct Try.underlying63 hv
  obtain ⟨l⟩ := cs
  match l, hsz.trans cells_span with
  | [c0, c1, c2, c3, c4, c5, c6, c7, c8, c9, c10, c11, c12, c13], _ =>
    obtain ⟨fuel, hf⟩ := h
    obtain ⟨xs, n, _, hx, _, hlen, hg⟩ := DataW.trod_struct Try.underlying63 hf
    have s0 : xs[0]? = some (xs[0]'(by rw [hlen]; decide)) := List.getElem?_eq_getElem _
    have s1 : xs[1]? = some (xs[1]'(by rw [hlen]; decide)) := List.getElem?_eq_getElem _
    have t0 : DataW.trod enc Try.prog w base spare held n 61 [c0, c1, c2, c3, c4, c5, c6] = xs[0]? := by simpa [cells_cron, Value.cells] using hg 0 _ rfl
    have t1 : DataW.trod enc Try.prog w base spare held n 61 [c7, c8, c9, c10, c11, c12, c13] = xs[1]? := by simpa [cells_cron, Value.cells] using hg 1 _ rfl
    obtain ⟨ai, ah, ad, am, aw, aa, ab, rfl, rfl, rfl, rfl, rfl, rfl, rfl, f1⟩ := cron_list (t0.trans s0)
    obtain ⟨bi, bh, bd, bm, bw, ba, bb, rfl, rfl, rfl, rfl, rfl, rfl, rfl, f2⟩ := cron_list (t1.trans s1)
    exact ⟨ai, ah, ad, am, aw, bi, bh, bd, bm, bw, aa, ab, ba, bb, f1, f2, rfl⟩
end
end Go.Proofs.Ytcnoapogeohmkaa


namespace Go.Proofs.Ytcnoapogeohmkaa
open Go.ChangeShapes Go.WideShapes Go.ChangeAt Go.RowKit
set_option linter.unusedVariables false
theorem cells_trig : Try.prog.cellsOf 65 = 17 := by kernel_rfl
section
variable {H : Type} {enc : TypeId × Value → H} {w : World} {base : Nat} {spare : Nat → Bool} {held : Bool}
set_option maxRecDepth 100000 in
theorem span_list {fuel : Nat} {x : DataW H × List MemPlace} {c0 c1 c2 c3 c4 c5 c6 c7 c8 c9 c10 c11 c12 c13 : Value} (hf : DataW.trod enc Try.prog w base spare held fuel 63 [c0, c1, c2, c3, c4, c5, c6, c7, c8, c9, c10, c11, c12, c13] = some x) :
    ∃ (ai ah ad am aw bi bh bd bm bw : Nat) (aa ab ba bb : Bool), Cr.fits ⟨ai, ah, ad, am, aw, aa, ab⟩ ∧ Cr.fits ⟨bi, bh, bd, bm, bw, ba, bb⟩ ∧ [c0, c1, c2, c3, c4, c5, c6, c7, c8, c9, c10, c11, c12, c13] = [.int .u64 (ai : Int), .int .u64 (ah : Int), .int .u64 (ad : Int), .int .u64 (am : Int), .int .u64 (aw : Int), .bool aa, .bool ab, .int .u64 (bi : Int), .int .u64 (bh : Int), .int .u64 (bd : Int), .int .u64 (bm : Int), .int .u64 (bw : Int), .bool ba, .bool bb] := by
  obtain ⟨xs, n, _, hx, _, hlen, hg⟩ := DataW.trod_struct Try.underlying63 hf
  have s0 : xs[0]? = some (xs[0]'(by rw [hlen]; decide)) := List.getElem?_eq_getElem _
  have s1 : xs[1]? = some (xs[1]'(by rw [hlen]; decide)) := List.getElem?_eq_getElem _
  have t0 : DataW.trod enc Try.prog w base spare held n 61 [c0, c1, c2, c3, c4, c5, c6] = xs[0]? := by simpa [cells_cron] using hg 0 _ rfl
  have t1 : DataW.trod enc Try.prog w base spare held n 61 [c7, c8, c9, c10, c11, c12, c13] = xs[1]? := by simpa [cells_cron] using hg 1 _ rfl
  obtain ⟨ai, ah, ad, am, aw, aa, ab, rfl, rfl, rfl, rfl, rfl, rfl, rfl, f1⟩ := cron_list (t0.trans s0)
  obtain ⟨bi, bh, bd, bm, bw, ba, bb, rfl, rfl, rfl, rfl, rfl, rfl, rfl, f2⟩ := cron_list (t1.trans s1)
  exact ⟨ai, ah, ad, am, aw, bi, bh, bd, bm, bw, aa, ab, ba, bb, f1, f2, rfl⟩
set_option maxRecDepth 100000 in
theorem trig_list {fuel : Nat} {x : DataW H × List MemPlace} {l : List Value} (hl : l.length = 17) (hf : DataW.trod enc Try.prog w base spare held fuel 65 l = some x) :
    ∃ (kind target act : Int) (ai ah ad am aw bi bh bd bm bw : Nat) (aa ab ba bb : Bool), Cr.fits ⟨ai, ah, ad, am, aw, aa, ab⟩ ∧ Cr.fits ⟨bi, bh, bd, bm, bw, ba, bb⟩ ∧ (Lit.int .i64 kind).wf = true ∧ (Lit.int .i64 target).wf = true ∧ (Lit.int .i64 act).wf = true ∧
      l = [.int .i64 kind, .int .i64 target, .int .i64 act, .int .u64 (ai : Int), .int .u64 (ah : Int), .int .u64 (ad : Int), .int .u64 (am : Int), .int .u64 (aw : Int), .bool aa, .bool ab, .int .u64 (bi : Int), .int .u64 (bh : Int), .int .u64 (bd : Int), .int .u64 (bm : Int), .int .u64 (bw : Int), .bool ba, .bool bb] := by
  match l, hl with
  | [k0, k1, k2, c0, c1, c2, c3, c4, c5, c6, c7, c8, c9, c10, c11, c12, c13], _ =>
    obtain ⟨xs, n, _, hx, _, hlen, hg⟩ := DataW.trod_struct Try.underlying65 hf
    have one : ∀ (i : Nat) (c : Value), i < 4 → (DataW.trod enc Try.prog w base spare held n 3 [c] = xs[i]?) → ∃ k : Int, c = .int .i64 k ∧ (Lit.int .i64 k).wf = true := by
      intro i c hi ht
      have hs : xs[i]? = some (xs[i]'(by rw [hlen]; exact hi)) := List.getElem?_eq_getElem _
      obtain ⟨k, hc, _, wf⟩ := DataW.trod_int Try.underlying3 (ht.trans hs)
      exact ⟨k, by simpa using hc, wf⟩
    obtain ⟨a0, rfl, w0⟩ := one 0 k0 (by omega) (by simpa [rows_cells_int] using hg 0 _ rfl)
    obtain ⟨a1, rfl, w1⟩ := one 1 k1 (by omega) (by simpa [rows_cells_int] using hg 1 _ rfl)
    obtain ⟨a2, rfl, w2⟩ := one 2 k2 (by omega) (by simpa [rows_cells_int] using hg 2 _ rfl)
    have s3 : xs[3]? = some (xs[3]'(by rw [hlen]; decide)) := List.getElem?_eq_getElem _
    have t3 : DataW.trod enc Try.prog w base spare held n 63 [c0, c1, c2, c3, c4, c5, c6, c7, c8, c9, c10, c11, c12, c13] = xs[3]? := by simpa [cells_span, rows_cells_int] using hg 3 _ rfl
    obtain ⟨ai, ah, ad, am, aw, bi, bh, bd, bm, bw, aa, ab, ba, bb, f1, f2, e⟩ := span_list (t3.trans s3)
    exact ⟨a0, a1, a2, ai, ah, ad, am, aw, bi, bh, bd, bm, bw, aa, ab, ba, bb, f1, f2, w0, w1, w2, by rw [e]⟩
set_option maxRecDepth 100000 in
theorem open_trig {r : Reach} {b0 : Nat} {v : Value} {d : DataW H} {p : List MemPlace} (hv : Value.okWide Try.prog w r b0 65 v) (h : DataW.Trod enc Try.prog w base spare held 65 v d p) :
    ∃ (kind target act : Int) (ai ah ad am aw bi bh bd bm bw : Nat) (aa ab ba bb : Bool), Cr.fits ⟨ai, ah, ad, am, aw, aa, ab⟩ ∧ Cr.fits ⟨bi, bh, bd, bm, bw, ba, bb⟩ ∧ (Lit.int .i64 kind).wf = true ∧ (Lit.int .i64 target).wf = true ∧ (Lit.int .i64 act).wf = true ∧
      v = .agg #[.int .i64 kind, .int .i64 target, .int .i64 act, .int .u64 (ai : Int), .int .u64 (ah : Int), .int .u64 (ad : Int), .int .u64 (am : Int), .int .u64 (aw : Int), .bool aa, .bool ab, .int .u64 (bi : Int), .int .u64 (bh : Int), .int .u64 (bd : Int), .int .u64 (bm : Int), .int .u64 (bw : Int), .bool ba, .bool bb] := by
  obtain ⟨cs, rfl, hsz⟩ := okWide_struct Try.underlying65 hv
  obtain ⟨l⟩ := cs
  obtain ⟨fuel, hf⟩ := h
  obtain ⟨kind, target, act, ai, ah, ad, am, aw, bi, bh, bd, bm, bw, aa, ab, ba, bb, f1, f2, w0, w1, w2, e⟩ := trig_list (by simpa using hsz.trans cells_trig) (by simpa [Value.cells] using hf)
  exact ⟨kind, target, act, ai, ah, ad, am, aw, bi, bh, bd, bm, bw, aa, ab, ba, bb, f1, f2, w0, w1, w2, by rw [e]⟩
set_option maxRecDepth 100000 in
/-- a list of integers, as package need reads it -/
theorem open_nums {r : Reach} {b0 : Nat} {v : Value} {d : DataW H} {p : List MemPlace} (hv : Value.okWide Try.prog w r b0 27 v) (h : DataW.Trod enc Try.prog w base spare held 27 v d p) :
    ∃ (A : Option Addr) (cap : Nat) (xs : List Int), NumsIn w A xs ∧ xs.length ≤ cap ∧ cap ≤ 9223372036854775807 ∧ (∀ x ∈ xs, -9223372036854775808 ≤ x ∧ x ≤ 9223372036854775807) ∧ v = .slice A xs.length cap := by
  obtain ⟨l, A, cap, rfl, h1, h2, h3, h4⟩ := open_intl hv h
  have e : ∀ (i : Nat) (hi : i < l.length), l[i] = [l[i].headD 0] := fun i hi => by
    have := (h3 _ (List.getElem_mem hi)).1
    match l[i], this with
    | [x], _ => rfl
  refine ⟨A, cap, l.map (fun row => row.headD 0), fun h0 => ?_, by simpa using h1, by simpa [maxLen] using h2, fun x hx => ?_, by simp⟩
  · obtain ⟨b, off, e1, e2, e3⟩ := h4 (by simpa using h0)
    refine ⟨b, off, e1, e2, fun i x hx => ?_⟩
    have hi : i < l.length := by
      rcases Nat.lt_or_ge i l.length with q | q
      · exact q
      · rw [List.getElem?_eq_none (by simpa using q)] at hx; cases hx
    have hx' : x = l[i].headD 0 := by
      rw [List.getElem?_map, List.getElem?_eq_getElem hi] at hx
      simpa using hx.symm
    have := e3 i _ 0 x (List.getElem?_eq_getElem hi) (by rw [e i hi, hx']; rfl)
    simpa using this
  · obtain ⟨row, hr, rfl⟩ := List.mem_map.1 hx
    have hh := h3 row hr
    match row, hh with
    | [x], hh => exact hh.2 x (by simp)
end
end Go.Proofs.Ytcnoapogeohmkaa


namespace Go.Proofs.Ytcnoapogeohmkaa
open Go.ChangeShapes Go.WideShapes Go.ChangeAt Go.RowKit
set_option linter.unusedVariables false
theorem cells_plan : Try.prog.cellsOf 26 = 18 := by kernel_rfl
theorem cells_pace4 : Try.prog.cellsOf 23 = 4 := by kernel_rfl
theorem cells_string1 : Try.prog.cellsOf 9 = 1 := by kernel_rfl
theorem cells_trigs : Try.prog.cellsOf 24 = 1 := by kernel_rfl
section
variable {H : Type} {enc : TypeId × Value → H} {w : World} {base : Nat} {spare : Nat → Bool} {held : Bool}
theorem pace_list {fuel : Nat} {x : DataW H × List MemPlace} {c0 c1 c2 c3 : Value} (hf : DataW.trod enc Try.prog w base spare held fuel 23 [c0, c1, c2, c3] = some x) :
    ∃ a b c d : Int, [c0, c1, c2, c3] = [.int .i64 a, .int .i64 b, .int .i64 c, .int .i64 d] := by
  obtain ⟨xs, n, _, hx, _, hlen, hg⟩ := DataW.trod_struct Try.underlying23 hf
  have one : ∀ (i : Nat) (c : Value), i < 4 → (DataW.trod enc Try.prog w base spare held n 3 [c] = xs[i]?) → ∃ k : Int, c = .int .i64 k := by
    intro i c hi ht
    have hs : xs[i]? = some (xs[i]'(by rw [hlen]; exact hi)) := List.getElem?_eq_getElem _
    obtain ⟨k, hc, _, _⟩ := DataW.trod_int Try.underlying3 (ht.trans hs)
    exact ⟨k, by simpa using hc⟩
  obtain ⟨k0, rfl⟩ := one 0 c0 (by omega) (by simpa [rows_cells_int, Value.cells] using hg 0 _ rfl)
  obtain ⟨k1, rfl⟩ := one 1 c1 (by omega) (by simpa [rows_cells_int, Value.cells] using hg 1 _ rfl)
  obtain ⟨k2, rfl⟩ := one 2 c2 (by omega) (by simpa [rows_cells_int, Value.cells] using hg 2 _ rfl)
  obtain ⟨k3, rfl⟩ := one 3 c3 (by omega) (by simpa [rows_cells_int, Value.cells] using hg 3 _ rfl)
  exact ⟨k0, k1, k2, k3, rfl⟩
/-- a list of triggers -/
theorem trigs_list {fuel : Nat} {c : Value} {x : DataW H × List MemPlace} (hf : DataW.trod enc Try.prog w base spare held fuel 24 [c] = some x) :
    ∃ (l : List Trg) (A : Option Addr) (cap : Nat), c = .slice A l.length cap ∧ l.length ≤ cap ∧ cap ≤ maxLen ∧ (∀ t ∈ l, t.fits) ∧ Tide.ListIn w 17 Trg.enc c l := by
  have h1 : ∃ a len cap, c = .slice a len cap := by
    rcases Go.Deep.open_slice Try.underlying24 hf with ⟨hcs, _⟩ | ⟨a, len, cap, _, _, _, _, hcs, _⟩
    · exact ⟨none, 0, 0, by simpa using hcs⟩
    · exact ⟨some a, len, cap, by simpa using hcs⟩
  refine open_list Try.underlying24 cells_trig (by decide) Trg.enc_length (fun n cs y hl hy => ?_) h1 (d := x.1) (p := x.2) ⟨fuel, by obtain ⟨a, len, cap, rfl⟩ := h1; simpa [Value.cells] using hf⟩
  obtain ⟨kind, target, act, ai, ah, ad, am, aw, bi, bh, bd, bm, bw, aa, ab, ba, bb, f1, f2, _, _, _, e⟩ := trig_list hl hy
  exact ⟨⟨kind, target, act, ⟨ai, ah, ad, am, aw, aa, ab⟩, ⟨bi, bh, bd, bm, bw, ba, bb⟩⟩, e, f1, f2⟩
set_option maxRecDepth 100000 in
set_option maxHeartbeats 1600000 in
theorem plan_list {fuel : Nat} {x : DataW H × List MemPlace} {l : List Value} (hl : l.length = 18) (hf : DataW.trod enc Try.prog w base spare held fuel 26 l = some x) :
    ∃ (p : Pln) (A : Option Addr) (cap : Nat), l = (plnC p (.slice A p.trigs.length cap)).toList ∧ p.trigs.length ≤ cap ∧ cap ≤ maxLen ∧ (∀ t ∈ p.trigs, t.fits) ∧ p.name.size ≤ maxLen ∧ Tide.ListIn w 17 Trg.enc (.slice A p.trigs.length cap) p.trigs := by
  match l, hl with
  | [s0, k1, k2, k3, k4, k5, k6, k7, k8, u0, u1, u2, u3, d0, d1, d2, d3, tv], _ =>
    obtain ⟨xs, n, _, hx, _, hlen, hg⟩ := DataW.trod_struct Try.underlying26 hf
    have one : ∀ (i : Nat) (c : Value), i < 12 → (DataW.trod enc Try.prog w base spare held n 3 [c] = xs[i]?) → ∃ k : Int, c = .int .i64 k := by
      intro i c hi ht
      have hs : xs[i]? = some (xs[i]'(by rw [hlen]; exact hi)) := List.getElem?_eq_getElem _
      obtain ⟨k, hc, _, wf⟩ := DataW.trod_int Try.underlying3 (ht.trans hs)
      exact ⟨k, by simpa using hc⟩
    have x0 : xs[0]? = some (xs[0]'(by rw [hlen]; decide)) := List.getElem?_eq_getElem _
    have t0 : DataW.trod enc Try.prog w base spare held n 9 [s0] = xs[0]? := by simpa [cells_string1] using hg 0 _ rfl
    obtain ⟨name, hs0, _, hnm⟩ := DataW.trod_string Try.underlying9 (t0.trans x0)
    obtain rfl : s0 = .string name := by simpa using hs0
    obtain ⟨a1, rfl⟩ := one 1 k1 (by omega) (by simpa [cells_string1, rows_cells_int] using hg 1 _ rfl)
    obtain ⟨a2, rfl⟩ := one 2 k2 (by omega) (by simpa [cells_string1, rows_cells_int] using hg 2 _ rfl)
    obtain ⟨a3, rfl⟩ := one 3 k3 (by omega) (by simpa [cells_string1, rows_cells_int] using hg 3 _ rfl)
    obtain ⟨a4, rfl⟩ := one 4 k4 (by omega) (by simpa [cells_string1, rows_cells_int] using hg 4 _ rfl)
    obtain ⟨a5, rfl⟩ := one 5 k5 (by omega) (by simpa [cells_string1, rows_cells_int] using hg 5 _ rfl)
    obtain ⟨a6, rfl⟩ := one 6 k6 (by omega) (by simpa [cells_string1, rows_cells_int] using hg 6 _ rfl)
    obtain ⟨a7, rfl⟩ := one 7 k7 (by omega) (by simpa [cells_string1, rows_cells_int] using hg 7 _ rfl)
    obtain ⟨a8, rfl⟩ := one 8 k8 (by omega) (by simpa [cells_string1, rows_cells_int] using hg 8 _ rfl)
    have x9 : xs[9]? = some (xs[9]'(by rw [hlen]; decide)) := List.getElem?_eq_getElem _
    have x10 : xs[10]? = some (xs[10]'(by rw [hlen]; decide)) := List.getElem?_eq_getElem _
    have x11 : xs[11]? = some (xs[11]'(by rw [hlen]; decide)) := List.getElem?_eq_getElem _
    have t9 : DataW.trod enc Try.prog w base spare held n 23 [u0, u1, u2, u3] = xs[9]? := by simpa [cells_string1, rows_cells_int, cells_pace4] using hg 9 _ rfl
    have t10 : DataW.trod enc Try.prog w base spare held n 23 [d0, d1, d2, d3] = xs[10]? := by simpa [cells_string1, rows_cells_int, cells_pace4] using hg 10 _ rfl
    have t11 : DataW.trod enc Try.prog w base spare held n 24 [tv] = xs[11]? := by simpa [cells_string1, rows_cells_int, cells_pace4, cells_trigs] using hg 11 _ rfl
    obtain ⟨b0, b1, b2, b3, e9⟩ := pace_list (t9.trans x9)
    obtain ⟨c0, c1, c2, c3, e10⟩ := pace_list (t10.trans x10)
    obtain ⟨ts, A, cap, rfl, h1, h2, h3, h4⟩ := trigs_list (t11.trans x11)
    cases e9
    cases e10
    exact ⟨⟨name, a1, a2, a3, a4, a5, a6, a7, a8, ⟨b0, b1, b2, b3⟩, ⟨c0, c1, c2, c3⟩, ts⟩, A, cap, rfl, h1, h2, h3, hnm, h4⟩
set_option maxRecDepth 100000 in
theorem open_plan {r : Reach} {b0 : Nat} {v : Value} {d : DataW H} {q : List MemPlace} (hv : Value.okWide Try.prog w r b0 26 v) (h : DataW.Trod enc Try.prog w base spare held 26 v d q) :
    ∃ (p : Pln) (A : Option Addr) (cap : Nat), v = plnV p (.slice A p.trigs.length cap) ∧ p.trigs.length ≤ cap ∧ cap ≤ maxLen ∧ (∀ t ∈ p.trigs, t.fits) ∧ p.name.size ≤ maxLen ∧ Tide.ListIn w 17 Trg.enc (.slice A p.trigs.length cap) p.trigs := by
  obtain ⟨cs, rfl, hsz⟩ := okWide_struct Try.underlying26 hv
  obtain ⟨l⟩ := cs
  obtain ⟨fuel, hf⟩ := h
  obtain ⟨p, A, cap, e, h1⟩ := plan_list (by simpa using hsz.trans cells_plan) (by simpa [Value.cells] using hf)
  exact ⟨p, A, cap, by rw [e]; rfl, h1⟩
end
end Go.Proofs.Ytcnoapogeohmkaa


namespace Go.Proofs.Ytcnoapogeohmkaa
open Go.ChangeShapes Go.WideShapes Go.ChangeAt Go.RowKit
set_option linter.unusedVariables false
theorem cells_ints : Try.prog.cellsOf 27 = 1 := by kernel_rfl
set_option maxRecDepth 100000 in
theorem cells_bool1 : Try.prog.cellsOf 4 = 1 := by kernel_rfl
set_option maxRecDepth 100000 in
theorem cells_reading : Try.prog.cellsOf 40 = 2 := by kernel_rfl
section
variable {H : Type} {enc : TypeId × Value → H} {w : World} {base : Nat} {spare : Nat → Bool} {held : Bool}
set_option maxRecDepth 100000 in
/-- a list of integers, as package need reads it -/
theorem rows_nums {v : Value} {l : List (List Int)} (h : ArgRows w 1 v l) :
    ∃ (A : Option Addr) (cap : Nat) (xs : List Int), NumsIn w A xs ∧ xs.length ≤ cap ∧ cap ≤ 9223372036854775807 ∧ (∀ x ∈ xs, -9223372036854775808 ≤ x ∧ x ≤ 9223372036854775807) ∧ v = .slice A xs.length cap := by
  obtain ⟨A, cap, rfl, h1, h2, h3, h4⟩ := h
  have e : ∀ (i : Nat) (hi : i < l.length), l[i] = [l[i].headD 0] := fun i hi => by
    have := (h3 _ (List.getElem_mem hi)).1
    match l[i], this with
    | [x], _ => rfl
  refine ⟨A, cap, l.map (fun row => row.headD 0), fun h0 => ?_, by simpa using h1, by simpa [maxLen] using h2, fun x hx => ?_, by simp⟩
  · obtain ⟨b, off, e1, e2, e3⟩ := h4 (by simpa using h0)
    refine ⟨b, off, e1, e2, fun i x hx => ?_⟩
    have hi : i < l.length := by
      rcases Nat.lt_or_ge i l.length with q | q
      · exact q
      · rw [List.getElem?_eq_none (by simpa using q)] at hx; cases hx
    have hx' : x = l[i].headD 0 := by
      rw [List.getElem?_map, List.getElem?_eq_getElem hi] at hx
      simpa using hx.symm
    have := e3 i _ 0 x (List.getElem?_eq_getElem hi) (by rw [e i hi, hx']; rfl)
    simpa using this
  · obtain ⟨row, hr, rfl⟩ := List.mem_map.1 hx
    have hh := h3 row hr
    match row, hh with
    | [x], hh => exact hh.2 x (by simp)
set_option maxRecDepth 100000 in
theorem reading_list {fuel : Nat} {x : DataW H × List MemPlace} {l : List Value} (hl : l.length = 2) (hf : DataW.trod enc Try.prog w base spare held fuel 40 l = some x) :
    ∃ (failed : Bool) (A : Option Addr) (cap : Nat) (xs : List Int), NumsIn w A xs ∧ xs.length ≤ cap ∧ cap ≤ 9223372036854775807 ∧ (∀ x ∈ xs, -9223372036854775808 ≤ x ∧ x ≤ 9223372036854775807) ∧ l = [.bool failed, .slice A xs.length cap] := by
  match l, hl with
  | [c0, c1], _ =>
    obtain ⟨xs, n, _, hx, _, hlen, hg⟩ := DataW.trod_struct Try.underlying40 hf
    have s0 : xs[0]? = some (xs[0]'(by rw [hlen]; decide)) := List.getElem?_eq_getElem _
    have s1 : xs[1]? = some (xs[1]'(by rw [hlen]; decide)) := List.getElem?_eq_getElem _
    have t0 : DataW.trod enc Try.prog w base spare held n 4 [c0] = xs[0]? := by simpa [cells_bool1] using hg 0 _ rfl
    have t1 : DataW.trod enc Try.prog w base spare held n 27 [c1] = xs[1]? := by simpa [cells_bool1, cells_ints] using hg 1 _ rfl
    obtain ⟨b, hb, _⟩ := DataW.trod_bool Try.underlying4 (t0.trans s0)
    have h1 : ∃ a len cap, c1 = .slice a len cap := by
      rcases Go.Deep.open_slice Try.underlying27 (t1.trans s1) with ⟨hcs, _⟩ | ⟨a, len, cap, _, _, _, _, hcs, _⟩
      · exact ⟨none, 0, 0, by simpa using hcs⟩
      · exact ⟨some a, len, cap, by simpa using hcs⟩
    obtain ⟨rows, hr⟩ := open_intl' (d := (xs[1]'(by rw [hlen]; decide)).1) (p := (xs[1]'(by rw [hlen]; decide)).2) h1 ⟨n, by obtain ⟨a, len, cap, rfl⟩ := h1; simpa [Value.cells] using t1.trans s1⟩
    obtain ⟨A, cap, ys, q1, q2, q3, q4, q5⟩ := rows_nums hr
    have hb' : c0 = .bool b := by simpa using hb
    exact ⟨b, A, cap, ys, q1, q2, q3, q4, by rw [hb', q5]⟩
set_option maxRecDepth 100000 in
theorem open_reading {r : Reach} {b0 : Nat} {v : Value} {d : DataW H} {p : List MemPlace} (hv : Value.okWide Try.prog w r b0 40 v) (h : DataW.Trod enc Try.prog w base spare held 40 v d p) :
    ∃ (failed : Bool) (A : Option Addr) (cap : Nat) (xs : List Int), NumsIn w A xs ∧ xs.length ≤ cap ∧ cap ≤ 9223372036854775807 ∧ (∀ x ∈ xs, -9223372036854775808 ≤ x ∧ x ≤ 9223372036854775807) ∧ v = .agg #[.bool failed, .slice A xs.length cap] := by
  obtain ⟨cs, rfl, hsz⟩ := okWide_struct Try.underlying40 hv
  obtain ⟨l⟩ := cs
  obtain ⟨fuel, hf⟩ := h
  obtain ⟨failed, A, cap, xs, q1, q2, q3, q4, e⟩ := reading_list (by simpa using hsz.trans cells_reading) (by simpa [Value.cells] using hf)
  exact ⟨failed, A, cap, xs, q1, q2, q3, q4, by rw [e]⟩
end
end Go.Proofs.Ytcnoapogeohmkaa


namespace Go.Proofs.Ytcnoapogeohmkaa
open Go.ChangeShapes Go.WideShapes Go.ChangeAt Go.RowKit
set_option linter.unusedVariables false
structure GlV where
  kind : Int
  now : Int
  sec : Int
  have0 : Int
  n : Int
  A : Option Addr
  cap : Nat
  rs : List RdV
  busy : Bool
def GlV.enc (g : GlV) : List Value := [.int .i64 g.kind, .int .i64 g.now, .int .i64 g.sec, .int .i64 g.have0, .int .i64 g.n, .slice g.A g.rs.length g.cap, .bool g.busy]
theorem GlV.enc_length (g : GlV) : g.enc.length = 7 := rfl
/-- what is known of a glance that comes in -/
structure GlV.right (w : World) (g : GlV) : Prop where
  rds : RdsIn (fun b => b < w.heap.size) w (.slice g.A g.rs.length g.cap) g.rs
  len : g.rs.length ≤ 9223372036854775807
  now : -9223372036854775808 ≤ g.now ∧ g.now ≤ 9223372036854775807
theorem cells_glance : Try.prog.cellsOf 50 = 7 := by kernel_rfl
theorem cells_readings : Try.prog.cellsOf 41 = 1 := by kernel_rfl
section
variable {H : Type} {enc : TypeId × Value → H} {w : World} {base : Nat} {spare : Nat → Bool} {held : Bool}
theorem readings_list {fuel : Nat} {c : Value} {x : DataW H × List MemPlace} (hf : DataW.trod enc Try.prog w base spare held fuel 41 [c] = some x) :
    ∃ (rs : List RdV) (A : Option Addr) (cap : Nat), c = .slice A rs.length cap ∧ rs.length ≤ cap ∧ cap ≤ maxLen ∧ RdsIn (fun b => b < w.heap.size) w c rs := by
  have h1 : ∃ a len cap, c = .slice a len cap := by
    rcases Go.Deep.open_slice Try.underlying41 hf with ⟨hcs, _⟩ | ⟨a, len, cap, _, _, _, _, hcs, _⟩
    · exact ⟨none, 0, 0, by simpa using hcs⟩
    · exact ⟨some a, len, cap, by simpa using hcs⟩
  obtain ⟨rs, A, cap, e, q1, q2, q3, q4⟩ := open_list (Q := fun r : RdV => NumsIn w r.A r.xs ∧ r.xs.length ≤ 9223372036854775807) Try.underlying41 cells_reading (by decide) RdV.enc_length (fun n cs y hl hy => by
    obtain ⟨failed, A, cap, xs, r1, r2, r3, _, e⟩ := reading_list hl hy
    exact ⟨⟨failed, A, cap, xs⟩, e, r1, show xs.length ≤ _ by omega⟩) h1 (d := x.1) (p := x.2) ⟨fuel, by obtain ⟨a, len, cap, rfl⟩ := h1; simpa [Value.cells] using hf⟩
  refine ⟨rs, A, cap, e, q1, q2, ?_, fun r hr h0 => ?_, fun r hr => (q3 r hr).2⟩
  · obtain ⟨A', c', e', hA⟩ := q4
    refine ⟨A', c', e', fun h0 => ?_⟩
    obtain ⟨b, off, e1, hlt, h2⟩ := hA h0
    exact ⟨b, off, e1, hlt, hlt, h2⟩
  · obtain ⟨b, off, e1, hlt, h2⟩ := (q3 r hr).1 h0
    exact ⟨b, off, e1, hlt, hlt, h2⟩
set_option maxRecDepth 100000 in
set_option maxHeartbeats 800000 in
theorem glance_list {fuel : Nat} {x : DataW H × List MemPlace} {l : List Value} (hl : l.length = 7) (hf : DataW.trod enc Try.prog w base spare held fuel 50 l = some x) :
    ∃ g : GlV, l = g.enc ∧ g.right w := by
  match l, hl with
  | [k0, k1, k2, k3, k4, c5, c6], _ =>
    obtain ⟨xs, n, _, hx, _, hlen, hg⟩ := DataW.trod_struct Try.underlying50 hf
    have one : ∀ (i : Nat) (c : Value), i < 7 → (DataW.trod enc Try.prog w base spare held n 3 [c] = xs[i]?) → ∃ k : Int, c = .int .i64 k ∧ (Lit.int .i64 k).wf = true := by
      intro i c hi ht
      have hs : xs[i]? = some (xs[i]'(by rw [hlen]; exact hi)) := List.getElem?_eq_getElem _
      obtain ⟨k, hc, _, wf⟩ := DataW.trod_int Try.underlying3 (ht.trans hs)
      exact ⟨k, by simpa using hc, wf⟩
    obtain ⟨a0, rfl, w0⟩ := one 0 k0 (by omega) (by simpa [rows_cells_int] using hg 0 _ rfl)
    obtain ⟨a1, rfl, w1⟩ := one 1 k1 (by omega) (by simpa [rows_cells_int] using hg 1 _ rfl)
    obtain ⟨a2, rfl, w2⟩ := one 2 k2 (by omega) (by simpa [rows_cells_int] using hg 2 _ rfl)
    obtain ⟨a3, rfl, w3⟩ := one 3 k3 (by omega) (by simpa [rows_cells_int] using hg 3 _ rfl)
    obtain ⟨a4, rfl, w4⟩ := one 4 k4 (by omega) (by simpa [rows_cells_int] using hg 4 _ rfl)
    have x5 : xs[5]? = some (xs[5]'(by rw [hlen]; decide)) := List.getElem?_eq_getElem _
    have x6 : xs[6]? = some (xs[6]'(by rw [hlen]; decide)) := List.getElem?_eq_getElem _
    have t5 : DataW.trod enc Try.prog w base spare held n 41 [c5] = xs[5]? := by simpa [rows_cells_int, cells_readings] using hg 5 _ rfl
    have t6 : DataW.trod enc Try.prog w base spare held n 4 [c6] = xs[6]? := by simpa [rows_cells_int, cells_readings, cells_bool1] using hg 6 _ rfl
    obtain ⟨rs, A, cap, rfl, q1, q2, q3⟩ := readings_list (t5.trans x5)
    obtain ⟨b, hb, _⟩ := DataW.trod_bool Try.underlying4 (t6.trans x6)
    have hb' : c6 = .bool b := by simpa using hb
    subst hb'
    refine ⟨⟨a0, a1, a2, a3, a4, A, cap, rs, b⟩, rfl, q3, by simp only [maxLen] at q2; show rs.length ≤ _; omega, ?_⟩
    have := bounds_i64 w1
    exact ⟨by show _ ≤ a1; omega, by show a1 ≤ _; omega⟩
set_option maxRecDepth 100000 in
theorem open_glances {r : Reach} {b0 : Nat} {v : Value} {d : DataW H} {p : List MemPlace} (hv : Value.okWide Try.prog w r b0 45 v) (h : DataW.Trod enc Try.prog w base spare held 45 v d p) :
    ∃ (l : List GlV) (A : Option Addr) (cap : Nat), v = .slice A l.length cap ∧ l.length ≤ cap ∧ cap ≤ maxLen ∧ (∀ g ∈ l, g.right w) ∧ Tide.ListIn w 7 GlV.enc v l :=
  open_list Try.underlying45 cells_glance (by decide) GlV.enc_length (fun n cs y hl hy => glance_list hl hy) (okWide_slice (P := Try.prog) Try.underlying45 hv) h
end
end Go.Proofs.Ytcnoapogeohmkaa
