/- WorldOwn: what is beside the two worlds; lists of integers alike. -/
import Derived.Test.YtlfaogkdghnmcaaGreatOwnA
import Derived.Test.YtlfaogkdghnmcaaGreatWldU
import Derived.Test.YtlfaogkdghnmcaaGreatWkB
import Derived.Test.YtlfaogkdghnmcaaGreatSamP
set_option linter.unusedVariables false
set_option linter.unusedSimpArgs false
namespace Go.Proofs.YtlfaogkdghnmcaaGreat
open Go.RowKit
def OwnInt (w : World) (v : Value) (l : List Int) : Prop := ∃ A cap, v = .slice A l.length cap ∧ (0 < l.length → ∃ b, A = some ⟨b, 0, none⟩ ∧ b < w.heap.size ∧ ∀ (i : Nat) (x : Int), l[i]? = some x → w.cell? ⟨b, i, none⟩ = some (.int .i64 x))
theorem own_int {S : Nat → Prop} {w : World} {v : Value} {l : List Int} (h : Tide.OwnRow S w 3 1 v l.length (l.map (.int .i64))) : OwnInt w v l := by
  obtain ⟨A, cap, rfl, h1, h2, h3⟩ := h.slice
  refine ⟨A, cap, rfl, fun h0 => ?_⟩
  obtain ⟨b, e, hS, hr⟩ := h3 h0
  exact ⟨b, e, hr.inside, fun i x hx => hr.cell (by rw [List.getElem?_map, hx]; rfl)⟩
theorem OwnInt.below {w w' : World} {v : Value} {l : List Int} (h : OwnInt w v l) (hb : Below w.heap.size w w') : OwnInt w' v l := by
  obtain ⟨A, cap, rfl, h3⟩ := h
  refine ⟨A, cap, rfl, fun h0 => ?_⟩
  obtain ⟨b, e, hl, hc⟩ := h3 h0
  exact ⟨b, e, Nat.lt_of_lt_of_le hl hb.size, fun i x hx => (hb.cell (p := ⟨b, i, none⟩) hl).trans (hc i x hx)⟩
set_option maxRecDepth 100000 in
set_option maxHeartbeats 1600000 in
theorem eint_equal (u v : Value) (l : List Int) (w : World) (hu : OwnInt w u l) (hv : OwnInt w v l) (hl : l.length ≤ 1000000) :
    Calls Tryz.prog 36 #[u, v] w fun e w' => e = .returned (.bool true) ∧ Tide.Chg (fun _ => False) w w' := by
  obtain ⟨A, c, rfl, hA⟩ := hu
  obtain ⟨A', c', rfl, hA'⟩ := hv
  have HA := Lib.hid hA; have HA' := Lib.hid hA'
  clear hA hA'
  go_enter Tryz.func36, Tryz.ntmps36
  go_wp2_with fail
  go_loopw [13] (fun i wr => ∃ k : Nat, k ≤ l.length ∧ i = .int .i64 k ∧ Tide.Chg (fun _ => False) w wr) (fun i _ => l.length - (intOf i).toNat)
  case atStart => exact ⟨0, by omega, rfl, Tide.Chg.refl _ _⟩
  case round =>
    obtain ⟨k, hk, rfl, hch⟩ := hrel
    by_cases hlt : k < l.length
    · obtain ⟨b, e1, hb, hc⟩ := HA.out (by omega)
      obtain ⟨b', e1', hb', hc'⟩ := HA'.out (by omega)
      subst e1 e1'
      obtain ⟨m, hm⟩ := Tide.get_some l hlt
      have c0 : wr.cell? ⟨b, k, none⟩ = _ := (World.cell?_of_block (w := w) (a := ⟨b, k, none⟩) (hch.block b hb (fun h => h))).trans (hc k m hm)
      have d0 : wr.cell? ⟨b', k, none⟩ = _ := (World.cell?_of_block (w := w) (a := ⟨b', k, none⟩) (hch.block b' hb' (fun h => h))).trans (hc' k m hm)
      have i0 : (0 : Int) ≤ (k : Int) := by omega
      have i1 : (k : Int) < (l.length : Int) := by omega
      clear hc hc' hm HA HA'
      go_wp2_with fail
      go_quiet (fail)
      go_wp2_with fail
      go_roundw
      case rel => exact ⟨k + 1, by omega, by go_num, hch.drewN _⟩
      case measure => simp [intOf]; omega
    · go_wp2_with fail
      go_ret
      exact ⟨rfl, hch⟩
/-- the copy of the triggers as a list that is read -/
theorem own_list {S : Nat → Prop} {w : World} {g n c : Nat} {ts : List Trg} (h : Tide.OwnRow S w 37 17 (.slice (some ⟨g, 0, none⟩) (n + 1) c) (n + 1) (ts.flatMap Trg.enc ++ T9C.toList)) (hn : n = ts.length) :
    Tide.ListIn w 17 Trg.enc (.slice (some ⟨g, 0, none⟩) ts.length c) ts ∧ w.cell? ⟨g, n * 17, none⟩ = some (.int .i64 9) ∧ n + 1 ≤ c ∧ g < w.heap.size ∧ Tide.OwnRow (fun b => b = g) w 37 17 (.slice (some ⟨g, 0, none⟩) n c) n (ts.flatMap Trg.enc) ∧ S g := by
  subst hn
  obtain ⟨g', c', e, hS, h1, h2, hr⟩ := h.form (by omega)
  cases e
  have hl := Tide.flat_length Trg.enc_length ts
  refine ⟨⟨_, _, rfl, fun _ => ⟨g, 0, rfl, hr.inside, fun i a j u hi hj => ?_⟩⟩, hr.cell ?_, h1, hr.inside, ⟨hl, .inr ⟨g, c, rfl, rfl, by omega, h2, ?_⟩⟩, hS⟩
  · rw [Nat.zero_add]
    refine hr.cell ?_
    have hf := Tide.flat_get Trg.enc_length hi hj
    rw [List.getElem?_append_left (Tide.get_lt hf)]; exact hf
  · rw [List.getElem?_append_right (by omega), hl, Nat.sub_self]; rfl
  · have := hr.fewer (ts.length * 17)
    rw [List.take_append_of_le_length (by omega), List.take_of_length_le (by omega)] at this
    exact this
theorem own_end {w x : World} {B g c g0 g1 n : Nat} {p : Pln} {A : Option Addr} {c0 : Nat} {u : Value} {xs : List Value} (hr : x.ownsRow B 37 17 (.slice (some ⟨g, 0, none⟩) (n + 1) c) (n + 1) (xs ++ T9C.toList)) (hb : Below w.heap.size w x)
    (h0 : Tide.At x g0 29 (plnC p (.slice A n c0))) (h1 : Tide.At x g1 29 (plnC p u)) (hB : g1 < B) (h01 : g0 ≠ g1) (hw : w.heap.size ≤ g1) :
    OwnIn w (x.setCell ⟨g1, 17, none⟩ (.slice (some ⟨g, 0, none⟩) n c)) g0 g1 (plnC p (.slice A n c0)) (plnC p) n xs g c := by
  have hrow : Tide.OwnRow (fun b => g1 < b) x 37 17 (.slice (some ⟨g, 0, none⟩) (n + 1) c) (n + 1) (xs ++ T9C.toList) := Tide.OwnRow.of_owns hr fun b hb2 => by
    have := (hr.lt b hb2).1; omega
  exact ⟨h0.other (p := ⟨g1, 17, none⟩) h01 _, h1.put 17 _, hrow.other (p := ⟨g1, 17, none⟩) (Nat.lt_irrefl _) _, hb.setCell hw _⟩
def TSC : Array Value := #[.int .i64 2, .int .i64 1, .int .i64 0, .int .u64 0, .int .u64 0, .int .u64 0, .int .u64 0, .int .u64 0, .bool false, .bool false, .int .u64 0, .int .u64 0, .int .u64 0, .int .u64 0, .int .u64 0, .bool false, .bool false]
theorem tsp_built : Tryz.prog.built 37 [(0, .int .i64 2), (1, .int .i64 1)] = some TSC := by kernel_rfl
/-- the two worlds in a round -/
def OwRun (w : World) (R : Nat → Prop) (wr : World) (qa qb : Wp) (ma mb : Wo) : Prop := TwoW R wr qa ma qb mb ∧ Below w.heap.size w wr
section
variable {w wr w1 w2 : World} {R : Nat → Prop} {qa qb : Wp} {ma mb : Wo}
theorem OwRun.spoil (h : OwRun w R wr qa qb ma mb) (hb : Below wr.heap.size wr w1) (hc : Tide.Chg (fun b => wr.heap.size ≤ b) w1 w2) : OwRun w R w2 qa qb ma mb := by
  have h1 := h.1.grow (Tide.Chg.of_below (S := fun _ => False) hb (Nat.le_refl _))
  have hc2 := hc.mono (S' := fun b => wr.heap.size ≤ b ∧ b < w1.heap.size) (fun k hk hs => ⟨hs, hk⟩)
  have h2 := h1.stir hc2 (fun b hb2 => .inr hb2)
  refine ⟨h2.mono fun b hb2 => .inl (.inl hb2), (h.2.trans (hb.mono h.2.size)).trans (hc.below ?_ (fun k hk hs => ?_))⟩
  · have := h.2.size; have := hb.size; omega
  · have := h.2.size; have hs : wr.heap.size ≤ k := hs; omega
theorem OwRun.below (h : OwRun w R wr qa qb ma mb) (hb : Below wr.heap.size wr w1) : OwRun w R w1 qa qb ma mb := ⟨h.1.below hb, h.2.trans (hb.mono h.2.size)⟩
theorem OwRun.chg (h : OwRun w R wr qa qb ma mb) (hc : Tide.Chg (fun _ => False) wr w1) : OwRun w R w1 qa qb ma mb := ⟨h.1.chg hc, h.2.trans (hc.below h.2.size (fun _ _ h => h))⟩
theorem OwRun.spoilM {m' : Wo} (h : OwRun w R wr qa qb ma mb) (hR : ∀ b, b < w.heap.size → R b) (ht : TwoW (fun b => R b ∨ (wr.heap.size ≤ b ∧ b < w1.heap.size)) w1 qa m' qb mb) (hch : Tide.Chg (fun b => ¬ R b) wr w1)
    (hc : Tide.Chg (fun b => wr.heap.size ≤ b) w1 w2) : OwRun w R w2 qa qb m' mb := by
  have hc2 := hc.mono (S' := fun b => wr.heap.size ≤ b ∧ b < w1.heap.size) (fun k hk hs => ⟨hs, hk⟩)
  have h2 := ht.stir hc2 (fun b hb2 => .inr hb2)
  refine ⟨h2.mono fun b hb2 => .inl (.inl hb2), (h.2.trans (hch.below h.2.size (fun k hk hs => hs (hR k hk)))).trans (hc.below ?_ (fun k hk hs => ?_))⟩
  · have := h.2.size; have := hch.size; omega
  · have := h.2.size; have hs : wr.heap.size ≤ k := hs; omega
end
end Go.Proofs.YtlfaogkdghnmcaaGreat
