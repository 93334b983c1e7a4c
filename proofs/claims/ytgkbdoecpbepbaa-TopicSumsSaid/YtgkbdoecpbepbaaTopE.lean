/- The contracts of Board.Lags and of slices.Equal at integers. -/
import Derived.Test.YtgkbdoecpbepbaaTopB
import Derived.Deep.AppendLies
import Derived.Deep.RegionLaw
namespace Go.Proofs.Ytgkbdoecpbepbaa
open Go.RowKit
set_option linter.unusedVariables false

theorem below_app1 {w wr w1 : World} {o : Obj} {v : Value} {xs : List Int} (hb : Below w.heap.size w wr) (ho : OwnInts w.heap.size wr v xs) (hg : (wr.alloc o).grownBy w1 v.ownBlock) : Below w.heap.size w w1 :=
  ((hb.alloc hb.size _)).grown hg (by have := hb.size; simp; omega) (Tide.own_ge ho)

theorem own_drew {w : World} {B : Nat} {e : TypeId} {s : Nat} {v : Value} {n : Nat} {xs : List Value} (h : w.ownsRow B e s v n xs) : w.drew.ownsRow B e s v n xs := h
theorem new_drew {w : World} {a : Addr} {l : List Value} (h : ∀ (j : Nat) (u : Value), l[j]? = some u → w.cell? (a.add j) = some u) : ∀ (j : Nat) (u : Value), l[j]? = some u → w.drew.cell? (a.add j) = some u := h
theorem drew_grown {w w1 : World} {o : Obj} {r : Option Nat} (h : (w.alloc o).drew.grownBy w1 r) : (w.alloc o).grownBy w1 r := ⟨h.os, h.tape, h.output, h.size, h.block⟩
theorem one_cell {x : Int} : ∀ u ∈ [Value.int .i64 x], u.oneCell' = true := by simp [Value.oneCell']

set_option maxRecDepth 100000 in
set_option maxHeartbeats 1600000 in
theorem boaLags (g p q : Nat) (l : List (Int × Int)) (w : World) (ht : BoardAt w g p q l) (hsm : Small l) :
    Calls Try.prog 20 #[.pointer (some ⟨g, 0, none⟩)] w (LagsPost w (lagsOf l)) := by
  have hc : w.cell? ⟨g, 0, none⟩ = some (.slice (some ⟨p, 0, none⟩) l.length l.length) := ht.head.here rfl
  have hs := ht.small
  have hgl := ht.head.inside; have hpl := ht.ends.inside; have hql := ht.offs.inside
  have HT := Lib.hid ht; have HS := Lib.hid hsm
  obtain ⟨i0, hi, hz0, hz1, hz2⟩ := info_parts info_int
  clear ht hsm
  go_enter Try.func20, Try.ntmps20
  go_wp2_with fail
  go_loopw [3, 4] (fun v i wr => ∃ k : Nat, k ≤ l.length ∧ i = .int .i64 k ∧ Hid (OwnInts w.heap.size wr v (lagsOf (l.take k))) ∧ Below w.heap.size w wr) (fun _ i _ => l.length - (intOf i).toNat)
  case atStart => exact ⟨0, by omega, rfl, ⟨by simp [lagsOf], .inl ⟨rfl, by simp [lagsOf]⟩⟩, Below.refl _ _⟩
  case round =>
    obtain ⟨k, hk, rfl, hown, hbw⟩ := hrel
    have hc1 : wr.cell? ⟨g, 0, none⟩ = some (.slice (some ⟨p, 0, none⟩) l.length l.length) := (hbw.cell (p := ⟨g, 0, none⟩) hgl).trans (HT.out.head.here rfl)
    have hc2 : wr.cell? ⟨g, 1, none⟩ = some (.slice (some ⟨q, 0, none⟩) l.length l.length) := (hbw.cell (p := ⟨g, 1, none⟩) hgl).trans (HT.out.head.here rfl)
    by_cases hlt : k < l.length
    · obtain ⟨⟨e, o⟩, hn⟩ : ∃ q, l[k]? = some q := ⟨_, List.getElem?_eq_getElem hlt⟩
      have hmem : (e, o) ∈ l := List.mem_of_getElem? hn
      obtain ⟨o0, o1, e1⟩ := HS.out _ hmem
      simp only at o0 o1 e1
      have hp : wr.cell? ⟨p, k, none⟩ = some (.int .i64 e) := (hbw.cell (p := ⟨p, k, none⟩) hpl).trans (HT.out.cells hn).1
      have hp' : wr.cell? ⟨q, k, none⟩ = some (.int .i64 o) := (hbw.cell (p := ⟨q, k, none⟩) hql).trans (HT.out.cells hn).2.1
      have HN := Lib.hid hn
      clear hn hmem
      have hlen : Hid ((lagsOf (l.take k)).length = k) := by show _ = _; unfold lagsOf; simp; omega
      have hew : IntKind.i64.wrap (e - o) = e - o := IntWalk.i64_in _ (by omega)
      go_wp2_with fail
      have hm3 : Hid ((lagsOf (l.take k)).length + 1 ≤ maxLen) := by show _ ≤ _; rw [hlen.out]; simp only [maxLen]; omega
      have hm4 : Hid (((lagsOf (l.take k)).length + 1) * 8 ≤ 140737488355328) := by show _ ≤ _; rw [hlen.out]; omega
      have hm5 : Hid (∀ o : Obj, w.heap.size ≤ (wr.alloc o).drew.heap.size) := fun o => by have := hbw.size; simp; omega
      go_region_law (refine step_append_lies _ rfl (.tmp 14) (.tmp 30) 29 rfl w.heap.size 3 i0 (.int .i64 0) 1 8 Try.underlying29 hi hz0 hz1 hz2 rfl (by decide) _ _ _ rfl (own_drew (hown.out.alloc _)) ⟨wr.heap.size, 0, none⟩ 1 1 [.int .i64 (e - o)] rfl rfl (new_drew (Tide.new_one rfl)) one_cell (by decide) hm3.out hm4.out (hm5.out _) _ rfl ?_; intro g1 cap1 w1 hown1 hg1 hl1 hl2)
      all_goals
        have hb1 := below_app1 hbw hown.out (drew_grown hg1)
        have ho1 := own_lags HN.out hown1
        clear hown1 hg1 hl1 hl2 hown hbw hlen hp hp' HN hew hm3 hm4 hm5 hc1 hc2
        go_wp2_with fail
        go_roundw
        case rel => exact ⟨k + 1, by omega, by go_num, ho1, hb1⟩
        case measure => simp [intOf]; omega
    · go_wp2_with fail
      go_ret
      exact ⟨_, rfl, by have := hown.out; rw [List.take_of_length_le (by omega)] at this; exact this, hbw⟩

/-- a slice of integers in memory: nil, or from an address on -/
def IntsIn (w : World) (v : Value) (xs : List Int) : Prop := ∃ A cap, v = .slice A xs.length cap ∧
  (0 < xs.length → ∃ b off, A = some ⟨b, off, none⟩ ∧ b < w.heap.size ∧ ∀ i x, xs[i]? = some x → w.cell? ⟨b, off + i, none⟩ = some (.int .i64 x))
theorem IntsIn.below {w w' : World} {B : Nat} {v : Value} {xs : List Int} (h : IntsIn w v xs) (hb : Below B w w') (hB : w.heap.size ≤ B) : IntsIn w' v xs := by
  obtain ⟨A, cap, e, hc⟩ := h
  refine ⟨A, cap, e, fun h0 => ?_⟩
  obtain ⟨b, off, e1, hlt, h2⟩ := hc h0
  exact ⟨b, off, e1, Nat.lt_of_lt_of_le hlt hb.size, fun i x hx => (hb.cell (p := ⟨b, off + i, none⟩) (by show b < B; omega)).trans (h2 i x hx)⟩
theorem OwnInts.in_ {B : Nat} {w : World} {v : Value} {xs : List Int} (h : OwnInts B w v xs) : IntsIn w v xs := by
  obtain ⟨h1, h2⟩ := h
  rcases h2 with ⟨rfl, h0⟩ | ⟨g, cap, cur, rfl, hb, hh, hn, hm, hs, htk⟩
  · exact ⟨none, 0, by rw [h0], fun c => by omega⟩
  · refine ⟨some ⟨g, 0, none⟩, cap, rfl, fun h0 => ⟨g, 0, rfl, ?_, fun i x hx => ?_⟩⟩
    · rcases Nat.lt_or_ge g w.heap.size with hl | hl
      · exact hl
      · rw [Array.getElem?_eq_none hl] at hh; cases hh
    · have hlt : i < xs.length := by
        rcases Nat.lt_or_ge i xs.length with hl | hl
        · exact hl
        · rw [List.getElem?_eq_none hl] at hx; cases hx
      rw [cell_of_row w g (0 + i) cur 3 (0, 0) hh, ← Array.getElem?_toList, Nat.zero_add]
      have : (cur.toList.take (xs.length * 1))[i]? = (xs.map (Value.int .i64))[i]? := by rw [htk]
      rw [List.getElem?_take, if_pos (by omega)] at this
      rw [this]
      simp [hx]

set_option maxRecDepth 100000 in
set_option maxHeartbeats 800000 in
theorem equal_ints (u v : Value) (xs : List Int) (w : World) (hu : IntsIn w u xs) (hv : IntsIn w v xs) (hl : xs.length ≤ 1000000) :
    Calls Try.prog 18 #[u, v] w fun e w' => e = .returned (.bool true) ∧ Tide.Chg (fun _ => False) w w' := by
  obtain ⟨A, c, rfl, hA⟩ := hu
  obtain ⟨A', c', rfl, hA'⟩ := hv
  have HA := Lib.hid hA; have HA' := Lib.hid hA'
  clear hA hA'
  go_enter Try.func18, Try.ntmps18
  go_wp2_with fail
  go_loopw [13] (fun i wr => ∃ k : Nat, k ≤ xs.length ∧ i = .int .i64 k ∧ Tide.Chg (fun _ => False) w wr) (fun i _ => xs.length - (intOf i).toNat)
  case atStart => exact ⟨0, by omega, rfl, Tide.Chg.refl _ _⟩
  case round =>
    obtain ⟨k, hk, rfl, hch⟩ := hrel
    by_cases hlt : k < xs.length
    · obtain ⟨b, off, e1, hb, hc⟩ := HA.out (by omega)
      obtain ⟨b', off', e1', hb', hc'⟩ := HA'.out (by omega)
      subst e1 e1'
      obtain ⟨x, hx⟩ : ∃ x, xs[k]? = some x := ⟨_, List.getElem?_eq_getElem hlt⟩
      have q1 : wr.cell? ⟨b, off + k, none⟩ = some (.int .i64 x) := (World.cell?_of_block (w := w) (a := ⟨b, off + k, none⟩) (hch.block b hb (fun h => h))).trans (hc k x hx)
      have q2 : wr.cell? ⟨b', off' + k, none⟩ = some (.int .i64 x) := (World.cell?_of_block (w := w) (a := ⟨b', off' + k, none⟩) (hch.block b' hb' (fun h => h))).trans (hc' k x hx)
      have i0 : (0 : Int) ≤ (k : Int) := by omega
      have i1 : (k : Int) < (xs.length : Int) := by omega
      clear hc hc' hx HA HA'
      go_wp2_with fail
      go_quiet (fail)
      go_wp2_with fail
      go_roundw
      case rel => exact ⟨k + 1, by omega, by go_num, hch.drewN _⟩
      case measure => simp [intOf]; omega
    · go_wp2_with fail
      go_ret
      exact ⟨rfl, hch⟩
end Go.Proofs.Ytgkbdoecpbepbaa
