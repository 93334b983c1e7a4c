/- The walk of TopicPlays. -/
import Derived.Test.YtgkbdoecpbepbaaTopL
import Derived.Deep.DeepCutAuto
import Derived.Deep.CutBlock
import Derived.Deep.RegionHeld3
import Derived.Deep.LoopGhost
namespace Go.Proofs.Ytgkbdoecpbepbaa
open Go.RowKit
set_option linter.unusedVariables false

/-- topic and board at the loop's head: all lie in memory of the call's own -/
structure Both (w0 w : World) (n g p bg bp bq : Nat) (l : List (Int × Int)) : Prop where
  topic : TopicAt w g p l
  board : BoardAt w bg bp bq l
  small : Small l
  len : l.length = n
  below : Below w0.heap.size w0 w
  own : w0.heap.size ≤ g ∧ w0.heap.size ≤ p ∧ w0.heap.size ≤ bg ∧ w0.heap.size ≤ bp ∧ w0.heap.size ≤ bq
  apart : p ≠ bg ∧ p ≠ bp ∧ p ≠ bq ∧ g ≠ bg ∧ g ≠ bp ∧ g ≠ bq

theorem madeCells_one (n : Nat) : madeCells #[.int .i64 0] n = (List.replicate n (Value.int .i64 0)).toArray := by
  unfold madeCells
  apply Array.ext
  · simp
  · intro i h1 h2
    simp [Nat.mod_one]
theorem make_ints (m : Nat) (h : (m : Int) ≤ 20) : ∀ W : World, (Instr.makeSlice 29 (.int .i64 (m : Int)) (.int .i64 (m : Int))).run Try.prog W = .ok (.slice (some ⟨W.heap.size, 0, none⟩) m m) (W.alloc (.cells (List.replicate m (Value.int .i64 0)).toArray 3)) := fun W => by
  obtain ⟨i0, hi, hz0, hz1, hz2⟩ := info_parts info_int
  have := run_make (P := Try.prog) W 29 3 i0 _ Try.underlying29 hi hz0 .i64 .i64 m m (by omega) (by omega) (by rw [hz2]; omega) (by omega)
  rw [Int.toNat_natCast, hz1] at this
  rw [this, Nat.mul_one, ← madeCells_one]
  rfl

theorem small_zero (m : Nat) : Small (List.replicate m (0, 0)) := fun p hp => by
  have := (List.mem_replicate.1 hp).2
  subst this; simp
theorem made3 (w1 : World) (A B D : Array Value) (S T U : TypeId) :
    Tide.At (((w1.alloc (.cells A S)).alloc (.cells B T)).alloc (.cells D U)) w1.heap.size S A ∧ Tide.At (((w1.alloc (.cells A S)).alloc (.cells B T)).alloc (.cells D U)) (w1.heap.size + 1) T B ∧
    Tide.At (((w1.alloc (.cells A S)).alloc (.cells B T)).alloc (.cells D U)) (w1.heap.size + 1 + 1) U D := by
  have h1 := Tide.At.made (w1.alloc (.cells A S)) T B
  have h2 := Tide.At.made ((w1.alloc (.cells A S)).alloc (.cells B T)) U D
  simp only [World.size_alloc] at h1 h2
  exact ⟨((Tide.At.made w1 S A).alloc _).alloc _, h1.alloc _, h2⟩
theorem both_made {w w1 : World} {m g p : Nat} {C : Array Value} (ht : TopicAt w1 g p (List.replicate m (0, 0))) (hb : Below w.heap.size w w1) (hg : w.heap.size ≤ g) (hp : w.heap.size ≤ p) (hm : m ≤ 20) (hC : (List.replicate m (Value.int .i64 0)).toArray = C) :
    Both w (((w1.alloc (.cells C 3)).alloc (.cells C 3)).alloc (.cells #[.slice (some ⟨w1.heap.size, 0, none⟩) m m, .slice (some ⟨w1.heap.size + 1, 0, none⟩) m m] 31)).drew m g p (w1.heap.size + 1 + 1) w1.heap.size (w1.heap.size + 1) (List.replicate m (0, 0)) := by
  obtain ⟨h1, h2, h3⟩ := made3 w1 C C #[.slice (some ⟨w1.heap.size, 0, none⟩) m m, .slice (some ⟨w1.heap.size + 1, 0, none⟩) m m] 3 3 31
  have hgl := ht.head.inside; have hpl := ht.parts.inside
  have hsz := hb.size
  refine ⟨⟨((ht.head.alloc _).alloc _).alloc _, ((ht.parts.alloc _).alloc _).alloc _, ht.small⟩, ⟨?_, ?_, ?_, by simpa using hm, by omega⟩, small_zero m, by simp, (((hb.alloc hsz _).alloc (by simp; omega) _).alloc (by simp; omega) _).drew, ⟨hg, hp, by omega, by omega, by omega⟩, ⟨by omega, by omega, by omega, by omega, by omega, by omega⟩⟩
  · rw [List.length_replicate]; exact h3
  · rw [List.map_replicate, hC]; exact h1
  · rw [List.map_replicate, hC]; exact h2
theorem both_made' {w w1 : World} {m g p : Nat} {C : Array Value} (ht : TopicAt w1 g p (List.replicate m (0, 0))) (hb : Below w.heap.size w w1) (hg : w.heap.size ≤ g) (hp : w.heap.size ≤ p) (hm : m ≤ 20) (hC : (List.replicate m (Value.int .i64 0)).toArray = C) :
    Both w (((w1.alloc (.cells C 3)).alloc (.cells C 3)).alloc (.cells #[.slice (some ⟨w1.heap.size + 1, 0, none⟩) m m, .slice (some ⟨w1.heap.size, 0, none⟩) m m] 31)).drew m g p (w1.heap.size + 1 + 1) (w1.heap.size + 1) w1.heap.size (List.replicate m (0, 0)) := by
  obtain ⟨h1, h2, h3⟩ := made3 w1 C C #[.slice (some ⟨w1.heap.size + 1, 0, none⟩) m m, .slice (some ⟨w1.heap.size, 0, none⟩) m m] 3 3 31
  have hgl := ht.head.inside; have hpl := ht.parts.inside
  have hsz := hb.size
  refine ⟨⟨((ht.head.alloc _).alloc _).alloc _, ((ht.parts.alloc _).alloc _).alloc _, ht.small⟩, ⟨?_, ?_, ?_, by simpa using hm, by omega⟩, small_zero m, by simp, (((hb.alloc hsz _).alloc (by simp; omega) _).alloc (by simp; omega) _).drew, ⟨hg, hp, by omega, by omega, by omega⟩, ⟨by omega, by omega, by omega, by omega, by omega, by omega⟩⟩
  · rw [List.length_replicate]; exact h3
  · rw [List.map_replicate, hC]; exact h2
  · rw [List.map_replicate, hC]; exact h1

/-- the row of a round -/
theorem round_row {w wr : World} {A : Option Addr} {l : List (List Int)} {k : Nat} (hA : RowsAt w 3 A l) (hr : ∀ row ∈ l, row.length = 3 ∧ ∀ x ∈ row, -9223372036854775808 ≤ x ∧ x ≤ 9223372036854775807) (hb : Below w.heap.size w wr) (hk : k < l.length) :
    ∃ b off x y z, A = some ⟨b, off, none⟩ ∧ wr.cell? ⟨b, off + k * 3, none⟩ = some (.int .i64 x) ∧ wr.cell? ⟨b, off + k * 3 + 1, none⟩ = some (.int .i64 y) ∧ wr.cell? ⟨b, off + k * 3 + 2, none⟩ = some (.int .i64 z) := by
  obtain ⟨b, off, e, hlt, hc⟩ := hA (by omega)
  have hrow : l[k]? = some l[k] := List.getElem?_eq_getElem hk
  have hlen := (hr _ (List.getElem_mem hk)).1
  obtain ⟨x, y, z, hxyz⟩ : ∃ x y z, l[k] = [x, y, z] := by
    match l[k], hlen with
    | [x, y, z], _ => exact ⟨x, y, z, rfl⟩
  rw [hxyz] at hrow
  exact ⟨b, off, x, y, z, e, (hb.cell (p := ⟨b, off + k * 3, none⟩) hlt).trans (hc k _ 0 x hrow rfl), (hb.cell (p := ⟨b, off + k * 3 + 1, none⟩) hlt).trans (hc k _ 1 y hrow rfl), (hb.cell (p := ⟨b, off + k * 3 + 2, none⟩) hlt).trans (hc k _ 2 z hrow rfl)⟩

theorem TopicAt.alloc {w : World} {g p : Nat} {l : List (Int × Int)} (h : TopicAt w g p l) (o : Obj) : TopicAt (w.alloc o) g p l := ⟨h.head.alloc o, h.parts.alloc o, h.small⟩
theorem TopicAt.drew {w : World} {g p : Nat} {l : List (Int × Int)} (h : TopicAt w g p l) : TopicAt w.drew g p l := ⟨h.head.drew, h.parts.drew, h.small⟩
theorem BoardAt.alloc {w : World} {g p q : Nat} {l : List (Int × Int)} (h : BoardAt w g p q l) (o : Obj) : BoardAt (w.alloc o) g p q l := ⟨h.head.alloc o, h.ends.alloc o, h.offs.alloc o, h.small, h.other⟩
theorem BoardAt.drew {w : World} {g p q : Nat} {l : List (Int × Int)} (h : BoardAt w g p q l) : BoardAt w.drew g p q l := ⟨h.head.drew, h.ends.drew, h.offs.drew, h.small, h.other⟩
theorem both_step {w wr w2 w3 : World} {m g p bg bp bq : Nat} {l l2 : List (Int × Int)} {o : Obj} (h : Both w wr m g p bg bp bq l) (ht : TopicAt w2 g p l2) (hc : Tide.Chg (· = p) (wr.alloc o).drew w2)
    (hb : BoardAt w3 bg bp bq l2) (hc3 : Tide.Chg (fun x => x = bp ∨ x = bq) w2 w3) (hs : Small l2) (hl : l2.length = l.length) : Both w w3 m g p bg bp bq l2 := by
  obtain ⟨a1, a2, a3, a4, a5, a6⟩ := h.apart
  obtain ⟨o1, o2, o3, o4, o5⟩ := h.own
  refine ⟨ht.chg hc3 (by omega) (by omega), hb, hs, by rw [hl]; exact h.len, ?_, h.own, h.apart⟩
  have b1 : Below w.heap.size w (wr.alloc o).drew := (h.below.alloc h.below.size o).drew
  have b2 : Below w.heap.size (wr.alloc o).drew w2 := hc.below (by have := h.below.size; simp; omega) (fun k hk => by omega)
  have b3 : Below w.heap.size w2 w3 := hc3.below (Nat.le_trans b1.size b2.size) (fun k hk => by omega)
  exact (b1.trans b2).trans b3
theorem both_alloc {w wr : World} {m g p bg bp bq : Nat} {l : List (Int × Int)} (h : Both w wr m g p bg bp bq l) (o : Obj) : Both w (wr.alloc o) m g p bg bp bq l :=
  ⟨h.topic.alloc o, h.board.alloc o, h.small, h.len, h.below.alloc h.below.size o, h.own, h.apart⟩
theorem both_below {w wr w1 : World} {m g p bg bp bq : Nat} {l : List (Int × Int)} (h : Both w wr m g p bg bp bq l) (hb : Below wr.heap.size wr w1) : Both w w1 m g p bg bp bq l := by
  have hc : Tide.Chg (fun _ => False) wr w1 := Tide.Chg.of_below hb (Nat.le_refl _)
  exact ⟨h.topic.chg hc (fun h => h) (fun h => h), h.board.chg hc (fun h => h) (fun h => h) (fun h => h), h.small, h.len, h.below.trans (hb.mono h.below.size), h.own, h.apart⟩
theorem both_chg {w wr w1 : World} {m g p bg bp bq : Nat} {l : List (Int × Int)} (h : Both w wr m g p bg bp bq l) (hc : Tide.Chg (fun _ => False) wr w1) : Both w w1 m g p bg bp bq l :=
  ⟨h.topic.chg hc (fun h => h) (fun h => h), h.board.chg hc (fun h => h) (fun h => h) (fun h => h), h.small, h.len, h.below.trans (hc.below h.below.size (fun k hk h => h)), h.own, h.apart⟩
theorem box_after {wr w2 : World} {p : Nat} {T : TypeId} {x y z : Value} (hc : Tide.Chg (· = p) (wr.alloc (.cells #[x, y, z] T)).drew w2) (hp : p < wr.heap.size) :
    w2.cell? ⟨wr.heap.size, 1, none⟩ = some y ∧ w2.cell? ⟨wr.heap.size, 2, none⟩ = some z := by
  have h : Tide.At w2 wr.heap.size T #[x, y, z] := (Tide.At.made wr T _).drew.chg hc (by omega)
  exact ⟨h.here rfl, h.here rfl⟩
theorem box_after2 {w2 w3 : World} {H p q : Nat} {y z : Value} (hc : Tide.Chg (fun x => x = p ∨ x = q) w2 w3) (h1 : w2.cell? ⟨H, 1, none⟩ = some y) (h2 : w2.cell? ⟨H, 2, none⟩ = some z) (hp : p < H) (hq : q < H) :
    w3.cell? ⟨H, 1, none⟩ = some y ∧ w3.cell? ⟨H, 2, none⟩ = some z := by
  have hlt := World.block_lt_of_cell? w2 _ h1
  have hb := hc.block H hlt (by omega)
  exact ⟨(World.cell?_of_block (w := w2) (a := ⟨H, 1, none⟩) hb).trans h1, (World.cell?_of_block (w := w2) (a := ⟨H, 2, none⟩) hb).trans h2⟩
theorem lags_len {l : List (Int × Int)} : (lagsOf l).length = l.length := by unfold lagsOf; simp

set_option maxRecDepth 100000 in
set_option maxHeartbeats 6400000 in
theorem topicPlays_walk (n : Int) (wn : (Lit.int .i64 n).wf = true) (v : Value) (l : List (List Int)) (w : World) (hl : ArgRows w 3 v l) :
    Calls Try.prog 3 #[.int .i64 n, v] w fun e w' => e = .returned (.bool true) ∧ Below w.heap.size w w' := by
  obtain ⟨A, cap, rfl, hcap, hmax, hrows, hA⟩ := hl
  by_cases hn : 1 ≤ n ∧ n ≤ 20
  · obtain ⟨m, rfl⟩ := Int.eq_ofNat_of_zero_le (show 0 ≤ n by omega)
    obtain ⟨n0, n1⟩ := hn
    by_cases hlen : 100 < l.length
    · have hbig : (100 : Int) < (l.length : Int) := by omega
      clear hrows hA hcap hmax
      go_enter Try.func3, Try.ntmps3
      go_wp2_with fail
      refine (topNew m (by omega) (by omega) _).mono ?_
      rintro e w1 ⟨g, p, rfl, ht, hg, hp, hb⟩
      clear ht
      go_wp2_with fail
      refine (refIn_yes _ _ _ _ n0 n1).mono ?_
      rintro e w' ⟨rfl, rfl⟩
      go_wp2_with fail
      go_ret
      exact ⟨rfl, hb⟩
    · have HA := Lib.hid hA
      have HR := Lib.hid hrows
      clear hA hrows hcap hmax
      go_enter Try.func3, Try.ntmps3
      go_wp2_with fail
      refine (topNew m (by omega) (by omega) _).mono ?_
      rintro e w1 ⟨g, p, rfl, ht, hg, hp, hb⟩
      have HT := Lib.hid ht
      clear ht
      go_wp2_with fail
      refine (refIn_yes _ _ _ _ n0 n1).mono ?_
      rintro e w' ⟨rfl, rfl⟩
      have hmk := make_ints m n1
      obtain ⟨C, hC⟩ : ∃ C, (List.replicate m (Value.int .i64 0)).toArray = C := ⟨_, rfl⟩
      rw [hC] at hmk
      have HC := Lib.hid hC
      clear hC
      go_upto_region 6 with fail
      go_cut [7] (fun s7 wx => ∃ bg bp bq : Nat, s7 = .pointer (some ⟨bg, 0, none⟩) ∧ Both w wx m g p bg bp bq (List.replicate m (0, 0)))
      case first =>
        go_region
        all_goals (go_wp2_with fail; go_meet; first | exact ⟨_, _, _, rfl, both_made HT.out hb hg hp (by omega) HC.out⟩ | exact ⟨_, _, _, rfl, both_made' HT.out hb hg hp (by omega) HC.out⟩)
      case rest =>
        obtain ⟨bg, bp, bq, rfl, hB⟩ := hcut
        have hbl := Lib.hid (show l.length ≤ 100 by omega)
        clear hmk HC HT
        go_wp2_with fail
        go_loopg [45] l.length (fun k i wr => ∃ (j : Nat) (lst : List (Int × Int)), i = .int .i64 j ∧ j ≤ l.length ∧ k = l.length - j ∧ Both w wr m g p bg bp bq lst)
        case atStart => exact ⟨0, _, rfl, by omega, by omega, hB⟩
        case round =>
          clear hB
          obtain ⟨j, lst, rfl, hj, hk, hB⟩ := hrel
          by_cases hlt : j < l.length
          · obtain ⟨b, off, x, y, z, rfl, hx, hy, hz⟩ := round_row HA.out HR.out hB.below hlt
            have hj0 : (0 : Int) ≤ (j : Int) := by omega
            have hj1 : (j : Int) < (l.length : Int) := by omega
            have HB := Lib.hid hB
            go_upto_block 2 with fail
            go_cut [10] (fun s10 wx => s10 = .bool true ∧ ∃ lst2, Both w wx m g p bg bp bq lst2)
            case first =>
              by_cases h0 : x = 0
              · subst h0
                have hT := Lib.hid ((hB.topic.alloc (.cells #[.int .i64 0, .int .i64 y, .int .i64 z] 33)).drew)
                have hD := Lib.hid ((hB.board.alloc (.cells #[.int .i64 0, .int .i64 y, .int .i64 z] 33)).drew)
                have hS := Lib.hid hB.small
                have hBB := Lib.hid hB
                clear hB
                go_wp2_with fail
                go_region_held3 (fun w' => w'.cell? ⟨wr.heap.size, 1, none⟩ = some (.int .i64 y) ∧ w'.cell? ⟨wr.heap.size, 2, none⟩ = some (.int .i64 z)) (first | exact ⟨s1, s2⟩ | exact ⟨q1, q2⟩ | go_keep) (first | (go_at_call 14; refine (topMake_any g p lst y z _ hT.out hS.out).mono ?_; rintro e w2 ⟨rfl, ht2, hc2⟩; obtain ⟨q1, q2⟩ := box_after hc2 hBB.out.topic.parts.inside) | (go_at_call 15; refine (boaMake_any bg bp bq lst y z _ (hD.out.chg hc2 (Ne.symm hBB.out.apart.1) (Ne.symm hBB.out.apart.2.1) (Ne.symm hBB.out.apart.2.2.1)) hS.out).mono ?_; rintro e w3 ⟨rfl, ht3, hc3⟩; obtain ⟨s1, s2⟩ := box_after2 hc3 q1 q2 hBB.out.board.ends.inside hBB.out.board.offs.inside))
                all_goals (go_wp2_with fail; go_meet; exact ⟨rfl, _, both_step hBB.out ht2 hc2 ht3 hc3 (hS.out.makes y z) (makeLst_length lst y z)⟩)
              by_cases h1 : x = 1
              · subst h1
                have hT := Lib.hid ((hB.topic.alloc (.cells #[.int .i64 1, .int .i64 y, .int .i64 z] 33)).drew)
                have hD := Lib.hid ((hB.board.alloc (.cells #[.int .i64 1, .int .i64 y, .int .i64 z] 33)).drew)
                have hS := Lib.hid hB.small
                have hBB := Lib.hid hB
                clear hB
                go_wp2_with fail
                go_region_held3 (fun w' => w'.cell? ⟨wr.heap.size, 1, none⟩ = some (.int .i64 y) ∧ w'.cell? ⟨wr.heap.size, 2, none⟩ = some (.int .i64 z)) (first | exact ⟨s1, s2⟩ | exact ⟨q1, q2⟩ | go_keep) (first | (go_at_call 16; refine (topTake_any g p lst y z _ hT.out).mono ?_; rintro e w2 ⟨rfl, ht2, hc2⟩; obtain ⟨q1, q2⟩ := box_after hc2 hBB.out.topic.parts.inside) | (go_at_call 17; refine (boaTake_any bg bp bq lst y z _ (hD.out.chg hc2 (Ne.symm hBB.out.apart.1) (Ne.symm hBB.out.apart.2.1) (Ne.symm hBB.out.apart.2.2.1))).mono ?_; rintro e w3 ⟨rfl, ht3, hc3⟩; obtain ⟨s1, s2⟩ := box_after2 hc3 q1 q2 hBB.out.board.ends.inside hBB.out.board.offs.inside))
                all_goals (go_wp2_with fail; go_meet; exact ⟨rfl, _, both_step hBB.out ht2 hc2 ht3 hc3 (hS.out.takes y z) (takeLst_length lst y z)⟩)
              have x0 : (x == 0) = false := by simp [h0]
              have x1 : (x == 1) = false := by simp [h1]
              clear h0 h1
              go_wp2_with fail
              go_meet
              exact ⟨rfl, _, both_alloc hB _⟩
            case rest =>
              clear hB hx hy hz
              obtain ⟨rfl, lst2, hB2⟩ := hcut
              have hBt := hB2.topic; have hBs := hB2.small
              go_wp2_with fail
              refine (topLags g p lst2 _ hB2.topic hB2.small).mono ?_
              rintro e w4 ⟨v4, rfl, ho4, hb4⟩
              have hB4 := both_below hB2 hb4
              have hi4 := ho4.in_
              go_wp2_with fail
              refine (boaLags bg bp bq lst2 _ hB4.board hB4.small).mono ?_
              rintro e w5 ⟨v5, rfl, ho5, hb5⟩
              have hB5 := both_below hB4 hb5
              have hi5 := ho5.in_
              have hi45 := hi4.below hb5 (Nat.le_refl _)
              go_wp2_with fail
              refine (equal_ints v4 v5 (lagsOf lst2) _ hi45 hi5 (by rw [lags_len]; have := hB2.board.small; omega)).mono ?_
              rintro e w6 ⟨rfl, hc6⟩
              have hB6 := Lib.hid (both_chg hB5 hc6)
              clear hB2 hB4 hB5 hi4 hi5 hi45 ho4 ho5 hb4 hb5 hc6 hBt hBs
              go_wp2_with fail
              go_roundg (l.length - (j + 1))
              case measure => omega
              case rel => exact ⟨j + 1, _, by go_num, by omega, rfl, hB6.out⟩
          · have hB2 := hB
            go_wp2_with fail
            refine (topLags g p lst _ hB2.topic hB2.small).mono ?_
            rintro e w4 ⟨v4, rfl, ho4, hb4⟩
            have hB4 := both_below hB2 hb4
            have hi4 := ho4.in_
            go_wp2_with fail
            refine (boaLags bg bp bq lst _ hB4.board hB4.small).mono ?_
            rintro e w5 ⟨v5, rfl, ho5, hb5⟩
            have hB5 := both_below hB4 hb5
            have hi5 := ho5.in_
            have hi45 := hi4.below hb5 (Nat.le_refl _)
            go_wp2_with fail
            refine (equal_ints v4 v5 (lagsOf lst) _ hi45 hi5 (by rw [lags_len]; have := hB2.board.small; omega)).mono ?_
            rintro e w6 ⟨rfl, hc6⟩
            have hB6 := Lib.hid (both_chg hB5 hc6)
            clear hB2 hB4 hB5 hi4 hi5 hi45 ho4 ho5 hb4 hb5 hc6
            go_wp2_with fail
            go_ret
            exact ⟨rfl, hB6.out.below⟩
  · have hb : n < 1 ∨ 20 < n := by omega
    clear hcap hmax hrows hA hn
    go_enter Try.func3, Try.ntmps3
    go_wp2_with fail
    refine (topNew_no _ hb _).mono ?_
    rintro e w1 ⟨rfl, rfl⟩
    go_wp2_with fail
    refine (refIn_no _ _ _ _ hb).mono ?_
    rintro e w' ⟨rfl, rfl⟩
    go_wp2_with fail
    refine (refIn_no _ _ _ _ hb).mono ?_
    rintro e w' ⟨rfl, rfl⟩
    go_wp2_with fail
    go_ret
    exact ⟨rfl, Below.refl _ _⟩
end Go.Proofs.Ytgkbdoecpbepbaa
