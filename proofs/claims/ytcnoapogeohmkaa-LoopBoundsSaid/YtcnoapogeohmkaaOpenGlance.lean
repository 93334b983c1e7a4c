/- A list of glances among the arguments: each with a list of readings. -/
import Derived.Test.YtcnoapogeohmkaaOpenList
import Derived.Test.YtcnoapogeohmkaaOpenRead
import Derived.Test.YtcnoapogeohmkaaLopF
set_option linter.unusedVariables false
set_option linter.unusedSimpArgs false
namespace Go.Proofs.Ytcnoapogeohmkaa
open Go.ChangeShapes Go.WideShapes Go.ChangeAt Go.RowKit
set_option linter.unusedVariables false
structure GlV where
  kind : Int
  now : Int
  sec : Int
  have0 : Int
  n : Int
  A : Option Addr
  cap : Nat
  rs : List RdV
  busy : Bool
def GlV.enc (g : GlV) : List Value := [.int .i64 g.kind, .int .i64 g.now, .int .i64 g.sec, .int .i64 g.have0, .int .i64 g.n, .slice g.A g.rs.length g.cap, .bool g.busy]
theorem GlV.enc_length (g : GlV) : g.enc.length = 7 := rfl
/-- what is known of a glance that comes in -/
structure GlV.right (w : World) (g : GlV) : Prop where
  rds : RdsIn (fun b => b < w.heap.size) w (.slice g.A g.rs.length g.cap) g.rs
  len : g.rs.length ≤ 9223372036854775807
  now : -9223372036854775808 ≤ g.now ∧ g.now ≤ 9223372036854775807
theorem cells_glance : Try.prog.cellsOf 50 = 7 := by kernel_rfl
theorem cells_readings : Try.prog.cellsOf 41 = 1 := by kernel_rfl
section
variable {H : Type} {enc : TypeId × Value → H} {w : World} {base : Nat} {spare : Nat → Bool} {held : Bool}
theorem readings_list {fuel : Nat} {c : Value} {x : DataW H × List MemPlace} (hf : DataW.trod enc Try.prog w base spare held fuel 41 [c] = some x) :
    ∃ (rs : List RdV) (A : Option Addr) (cap : Nat), c = .slice A rs.length cap ∧ rs.length ≤ cap ∧ cap ≤ maxLen ∧ RdsIn (fun b => b < w.heap.size) w c rs := by
  have h1 : ∃ a len cap, c = .slice a len cap := by
    rcases Go.Deep.open_slice Try.underlying41 hf with ⟨hcs, _⟩ | ⟨a, len, cap, _, _, _, _, hcs, _⟩
    · exact ⟨none, 0, 0, by simpa using hcs⟩
    · exact ⟨some a, len, cap, by simpa using hcs⟩
  obtain ⟨rs, A, cap, e, q1, q2, q3, q4⟩ := open_list (Q := fun r : RdV => NumsIn w r.A r.xs ∧ r.xs.length ≤ 9223372036854775807) Try.underlying41 cells_reading (by decide) RdV.enc_length (fun n cs y hl hy => by
    obtain ⟨failed, A, cap, xs, r1, r2, r3, _, e⟩ := reading_list hl hy
    exact ⟨⟨failed, A, cap, xs⟩, e, r1, show xs.length ≤ _ by omega⟩) h1 (d := x.1) (p := x.2) ⟨fuel, by obtain ⟨a, len, cap, rfl⟩ := h1; simpa [Value.cells] using hf⟩
  refine ⟨rs, A, cap, e, q1, q2, ?_, fun r hr h0 => ?_, fun r hr => (q3 r hr).2⟩
  · obtain ⟨A', c', e', hA⟩ := q4
    refine ⟨A', c', e', fun h0 => ?_⟩
    obtain ⟨b, off, e1, hlt, h2⟩ := hA h0
    exact ⟨b, off, e1, hlt, hlt, h2⟩
  · obtain ⟨b, off, e1, hlt, h2⟩ := (q3 r hr).1 h0
    exact ⟨b, off, e1, hlt, hlt, h2⟩
set_option maxRecDepth 100000 in
set_option maxHeartbeats 800000 in
theorem glance_list {fuel : Nat} {x : DataW H × List MemPlace} {l : List Value} (hl : l.length = 7) (hf : DataW.trod enc Try.prog w base spare held fuel 50 l = some x) :
    ∃ g : GlV, l = g.enc ∧ g.right w := by
  match l, hl with
  | [k0, k1, k2, k3, k4, c5, c6], _ =>
    obtain ⟨xs, n, _, hx, _, hlen, hg⟩ := DataW.trod_struct Try.underlying50 hf
    have one : ∀ (i : Nat) (c : Value), i < 7 → (DataW.trod enc Try.prog w base spare held n 3 [c] = xs[i]?) → ∃ k : Int, c = .int .i64 k ∧ (Lit.int .i64 k).wf = true := by
      intro i c hi ht
      have hs : xs[i]? = some (xs[i]'(by rw [hlen]; exact hi)) := List.getElem?_eq_getElem _
      obtain ⟨k, hc, _, wf⟩ := DataW.trod_int Try.underlying3 (ht.trans hs)
      exact ⟨k, by simpa using hc, wf⟩
    obtain ⟨a0, rfl, w0⟩ := one 0 k0 (by omega) (by simpa [rows_cells_int] using hg 0 _ rfl)
    obtain ⟨a1, rfl, w1⟩ := one 1 k1 (by omega) (by simpa [rows_cells_int] using hg 1 _ rfl)
    obtain ⟨a2, rfl, w2⟩ := one 2 k2 (by omega) (by simpa [rows_cells_int] using hg 2 _ rfl)
    obtain ⟨a3, rfl, w3⟩ := one 3 k3 (by omega) (by simpa [rows_cells_int] using hg 3 _ rfl)
    obtain ⟨a4, rfl, w4⟩ := one 4 k4 (by omega) (by simpa [rows_cells_int] using hg 4 _ rfl)
    have x5 : xs[5]? = some (xs[5]'(by rw [hlen]; decide)) := List.getElem?_eq_getElem _
    have x6 : xs[6]? = some (xs[6]'(by rw [hlen]; decide)) := List.getElem?_eq_getElem _
    have t5 : DataW.trod enc Try.prog w base spare held n 41 [c5] = xs[5]? := by simpa [rows_cells_int, cells_readings] using hg 5 _ rfl
    have t6 : DataW.trod enc Try.prog w base spare held n 4 [c6] = xs[6]? := by simpa [rows_cells_int, cells_readings, cells_bool1] using hg 6 _ rfl
    obtain ⟨rs, A, cap, rfl, q1, q2, q3⟩ := readings_list (t5.trans x5)
    obtain ⟨b, hb, _⟩ := DataW.trod_bool Try.underlying4 (t6.trans x6)
    have hb' : c6 = .bool b := by simpa using hb
    subst hb'
    refine ⟨⟨a0, a1, a2, a3, a4, A, cap, rs, b⟩, rfl, q3, by simp only [maxLen] at q2; show rs.length ≤ _; omega, ?_⟩
    have := bounds_i64 w1
    exact ⟨by show _ ≤ a1; omega, by show a1 ≤ _; omega⟩
set_option maxRecDepth 100000 in
theorem open_glances {r : Reach} {b0 : Nat} {v : Value} {d : DataW H} {p : List MemPlace} (hv : Value.okWide Try.prog w r b0 45 v) (h : DataW.Trod enc Try.prog w base spare held 45 v d p) :
    ∃ (l : List GlV) (A : Option Addr) (cap : Nat), v = .slice A l.length cap ∧ l.length ≤ cap ∧ cap ≤ maxLen ∧ (∀ g ∈ l, g.right w) ∧ Tide.ListIn w 7 GlV.enc v l :=
  open_list Try.underlying45 cells_glance (by decide) GlV.enc_length (fun n cs y hl hy => glance_list hl hy) (okWide_slice (P := Try.prog) Try.underlying45 hv) h
end
end Go.Proofs.Ytcnoapogeohmkaa
