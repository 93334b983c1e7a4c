/- Of the texts FleC, FleD, FleE: what this claim reaches. -/
import Derived.WalkKit
import Derived.WalkSpells
import Derived.WalkLawsBesides
import Derived.Lib.Hide
import Derived.Handy
import Derived.RegionTactic
import Derived.BigRegion
import Derived.Deep.QuietTactic
import Derived.BigQuiet
import Derived.Deep.RegionLaw
import Derived.Deep.RegionHeld3
import Derived.Deep.AppendLies
import Derived.Deep.DeepCutAuto
import Derived.Deep.CutBlock
import Derived.Deep.LoopGhost
import Derived.Lib.SliceRun
import Derived.Test.YtidonhndeohdlaaGreatDoorRows
import Derived.Test.YtidonhndeohdlaaGreatDoorTt02
set_option linter.unusedVariables false
set_option linter.unusedSimpArgs false
namespace Go.Proofs.YtidonhndeohdlaaGreatDoor
open Go.RowKit
theorem fle_info : (Tryz.prog.info? 40).map (fun i => (i.zero, i.size, i.bytes)) = some (some (.agg #[.int .i64 0, .int .i64 0, .int .i64 0]), 3, 24) := by kernel_rfl
structure FAt (T : TypeId) (S : Nat → Prop) (w : World) (g : Nat) (v : Value) (l : List Tide.Pod) (last most : Int) : Prop where
  head : Tide.At w g T #[v, .int .i64 last, .int .i64 most]
  row : Tide.OwnRow S w 40 3 v l.length (l.flatMap Tide.Pod.enc)
  own : S g
  small : l.length ≤ 10000000
  lim : ∀ b, S b → b < w.heap.size
section
variable {T : TypeId} {S S' C : Nat → Prop} {w w' w0 : World} {g : Nat} {v : Value} {l : List Tide.Pod} {last most : Int}
theorem FAt.chg (h : FAt T S w g v l last most) (hc : Tide.Chg C w w') (hs : ∀ b, S b → ¬ C b) : FAt T S w' g v l last most :=
  ⟨h.head.chg hc (hs g h.own), h.row.chg hc hs, h.own, h.small, fun b hb => Nat.lt_of_lt_of_le (h.lim b hb) hc.size⟩
theorem FAt.below (h : FAt T S w g v l last most) (hb : Below w.heap.size w w') : FAt T S w' g v l last most :=
  h.chg (C := fun _ => False) (Tide.Chg.of_below hb (Nat.le_refl _)) (fun _ _ h => h)
theorem FAt.mono (h : FAt T S w g v l last most) (hs : ∀ b, b < w.heap.size → S b → S' b) (hl : ∀ b, S' b → b < w.heap.size) : FAt T S' w g v l last most :=
  ⟨h.head, h.row.mono hs, hs g h.head.inside h.own, h.small, hl⟩
theorem FAt.up (h : FAt T S w g v l last most) : FAt T (Tide.Plus S w0 w) w g v l last most :=
  h.mono (fun _ _ hb => .inl hb) (fun b hb => by rcases hb with hb | hb; exact h.lim b hb; exact hb.2)
theorem FAt.alloc (h : FAt T S w g v l last most) (o : Obj) : FAt T S (w.alloc o) g v l last most := h.chg (C := fun _ => False) ((Tide.Chg.refl _ w).alloc o) (fun _ _ h => h)
theorem FAt.drew (h : FAt T S w g v l last most) : FAt T S w.drew g v l last most := ⟨h.head.drew, h.row.drew, h.own, h.small, h.lim⟩
theorem FAt.pod (h : FAt T S w g v l last most) {k : Nat} {p : Tide.Pod} (hk : l[k]? = some p) :
    ∃ b cap, v = .slice (some ⟨b, 0, none⟩) l.length cap ∧ S b ∧ l.length ≤ cap ∧ cap ≤ maxLen ∧ b < w.heap.size ∧ w.cell? ⟨b, k * 3, none⟩ = some (.int .i64 p.id) ∧ w.cell? ⟨b, k * 3 + 1, none⟩ = some (.int .i64 p.state) ∧ w.cell? ⟨b, k * 3 + 2, none⟩ = some (.int .i64 p.load) ∧ (∀ i, w.frozen? ⟨b, i, none⟩ = false) := by
  obtain ⟨b, cap, e, hS, h1, h2, h3⟩ := h.row.form (by have := Tide.get_lt hk; omega)
  exact ⟨b, cap, e, hS, h1, h2, h3.inside, h3.cell (Tide.flat_get (j := 0) Tide.Pod.enc_length hk rfl), h3.cell (Tide.flat_get (j := 1) Tide.Pod.enc_length hk rfl), h3.cell (Tide.flat_get (j := 2) Tide.Pod.enc_length hk rfl), h3.soft⟩
theorem FAt.apart (h : FAt T S w g v l last most) (hT : T ≠ 40) : ∀ b, v.ownBlock = some b → b ≠ g := h.row.apartAt h.head (Ne.symm hT)
end
theorem fle_drewN {B : Nat} {w w' : World} (h : Below B w w') (n : Nat) : Below B w (w'.drewN n) := ⟨h.os, h.tape, h.output, h.size, h.block⟩
def FleRead (w : World) (v : Value) (e : Ending) (w' : World) : Prop := e = .returned v ∧ Below w.heap.size w w'
set_option maxRecDepth 100000 in
set_option maxHeartbeats 1600000 in
theorem fleCount (S : Nat → Prop) (g : Nat) (v : Value) (l : List Tide.Pod) (last most : Int) (w : World) (h : FAt 120 S w g v l last most) :
    Calls Tryz.prog 94 #[.pointer (some ⟨g, 0, none⟩)] w (FleRead w (.int .i64 (Tide.liveN l))) := by
  obtain ⟨A, cap, rfl, _, _, _⟩ := h.row.slice
  have hc : w.cell? ⟨g, 0, none⟩ = some (.slice A l.length cap) := h.head.here rfl
  have hs := h.small
  have HH := Lib.hid h
  clear h
  go_enter Tryz.func94, Tryz.ntmps94
  go_wp2_with fail
  go_loopw [3, 11] (fun n i wr => ∃ k : Nat, k ≤ l.length ∧ i = .int .i64 k ∧ n = .int .i64 (((l.take k).countP Tide.lives : Nat) : Int) ∧ Below w.heap.size w wr) (fun _ i _ => l.length - (intOf i).toNat)
  case atStart => exact ⟨0, by omega, rfl, by simp, Below.refl _ _⟩
  case round =>
    clear hc
    obtain ⟨k, hk, rfl, rfl, hb⟩ := hrel
    by_cases hlt : k < l.length
    · obtain ⟨p, hp⟩ := Tide.get_some l hlt
      obtain ⟨b, cap', e, hS, _, _, hbl, c0, c1, c2, _⟩ := (HH.out.below hb).pod hp
      cases e
      have i0 : (0 : Int) ≤ (k : Int) := by omega
      have i1 : (k : Int) < (l.length : Int) := by omega
      have HC := Lib.hid (Tide.count_snoc (p := Tide.lives) hp)
      have hle : (l.take k).countP Tide.lives ≤ 10000000 := Nat.le_trans List.countP_le_length (by rw [List.length_take]; omega)
      generalize (l.take k).countP Tide.lives = N at HC hle ⊢
      have hle' : (N : Int) ≤ 10000000 := by omega
      have HB := Lib.hid (hb.alloc hb.size (.cells #[.int .i64 p.id, .int .i64 p.state, .int .i64 p.load] 40))
      clear hp hb hle
      cases hf : (p.state == 4)
      · have hf2 : (p.state != 4) = true := by simp only [bne, hf]; rfl
        have HT := Lib.hid (show Tide.lives p = true by unfold Tide.lives; rw [hf]; rfl)
        go_wp2_with fail
        go_roundw
        case rel => exact ⟨k + 1, by omega, by go_num, by rw [HC.out, HT.out]; go_num, HB.out⟩
        case measure => simp [intOf]; omega
      · have hf2 : (p.state != 4) = false := by simp only [bne, hf]; rfl
        have HT := Lib.hid (show Tide.lives p = false by unfold Tide.lives; rw [hf]; rfl)
        go_wp2_with fail
        go_roundw
        case rel => exact ⟨k + 1, by omega, by go_num, by rw [HC.out, HT.out]; go_num, HB.out⟩
        case measure => simp [intOf]; omega
    · have hke : k = l.length := by omega
      subst hke
      have HB := Lib.hid hb
      clear hb
      rw [List.take_length]
      go_wp2_with fail
      go_ret
      exact ⟨rfl, HB.out⟩
theorem fle_two (w : World) (a b : Obj) : Below w.heap.size w ((w.alloc a).alloc b) := ((Below.refl _ w).alloc (Nat.le_refl _) a).alloc (by simp) b
set_option maxHeartbeats 800000 in
theorem fleLess_gt (p q : Tide.Pod) (w : World) : Calls Tryz.prog 145 #[.agg #[.int .i64 p.id, .int .i64 p.state, .int .i64 p.load], .agg #[.int .i64 q.id, .int .i64 q.state, .int .i64 q.load]] w fun e w' => e = .returned (.bool (Tide.gtId p q)) ∧ Below w.heap.size w w' := by
  go_enter Tryz.func145, Tryz.ntmps145
  go_wp2_with fail
  go_ret
  exact ⟨rfl, fle_two _ _ _⟩
set_option maxHeartbeats 800000 in
theorem fleLess_lt (p q : Tide.Pod) (w : World) : Calls Tryz.prog 124 #[.agg #[.int .i64 p.id, .int .i64 p.state, .int .i64 p.load], .agg #[.int .i64 q.id, .int .i64 q.state, .int .i64 q.load]] w fun e w' => e = .returned (.bool (Tide.ltLoad p q)) ∧ Below w.heap.size w w' := by
  go_enter Tryz.func124, Tryz.ntmps124
  go_wp2_with fail
  go_ret
  exact ⟨rfl, fle_two _ _ _⟩
set_option maxHeartbeats 800000 in
theorem fleLess_both (p q : Tide.Pod) (w : World) : Calls Tryz.prog 146 #[.agg #[.int .i64 p.id, .int .i64 p.state, .int .i64 p.load], .agg #[.int .i64 q.id, .int .i64 q.state, .int .i64 q.load]] w fun e w' => e = .returned (.bool (Tide.ltBoth p q)) ∧ Below w.heap.size w w' := by
  by_cases h1 : p.load < q.load
  · have HT := Lib.hid (show Tide.ltBoth p q = true by unfold Tide.ltBoth; simp [h1])
    go_enter Tryz.func146, Tryz.ntmps146
    go_wp2_with fail
    go_ret
    exact ⟨by rw [HT.out] <;> rfl, fle_two _ _ _⟩
  · cases h2 : (p.load == q.load)
    · have HT := Lib.hid (show Tide.ltBoth p q = false by unfold Tide.ltBoth; simp [h1, h2])
      have h1' : decide (p.load < q.load) = false := decide_eq_false h1
      clear h1
      go_enter Tryz.func146, Tryz.ntmps146
      go_wp2_with fail
      go_ret
      exact ⟨by rw [HT.out] <;> rfl, fle_two _ _ _⟩
    · have HT := Lib.hid (show Tide.ltBoth p q = decide (q.id < p.id) by unfold Tide.ltBoth; simp [h1, h2])
      have h1' : decide (p.load < q.load) = false := decide_eq_false h1
      clear h1
      go_enter Tryz.func146, Tryz.ntmps146
      go_wp2_with fail
      go_ret
      exact ⟨by rw [HT.out] <;> rfl, fle_two _ _ _⟩
theorem fle_keep7 {W w1 : World} {x g b j n cap : Nat} {p q : Tide.Pod} (hb : Below W.heap.size W w1) (h1 : x < W.heap.size) (h2 : g < W.heap.size) (h3 : b < W.heap.size)
    (y : W.cell? ⟨x, 0, none⟩ = some (.int .i64 p.id) ∧ W.cell? ⟨x, 1, none⟩ = some (.int .i64 p.state) ∧ W.cell? ⟨x, 2, none⟩ = some (.int .i64 p.load) ∧ W.cell? ⟨g, 0, none⟩ = some (.slice (some ⟨b, 0, none⟩) n cap) ∧ W.cell? ⟨b, j * 3, none⟩ = some (.int .i64 q.id) ∧ W.cell? ⟨b, j * 3 + 1, none⟩ = some (.int .i64 q.state) ∧ W.cell? ⟨b, j * 3 + 2, none⟩ = some (.int .i64 q.load)) :
    w1.cell? ⟨x, 0, none⟩ = some (.int .i64 p.id) ∧ w1.cell? ⟨x, 1, none⟩ = some (.int .i64 p.state) ∧ w1.cell? ⟨x, 2, none⟩ = some (.int .i64 p.load) ∧ w1.cell? ⟨g, 0, none⟩ = some (.slice (some ⟨b, 0, none⟩) n cap) ∧ w1.cell? ⟨b, j * 3, none⟩ = some (.int .i64 q.id) ∧ w1.cell? ⟨b, j * 3 + 1, none⟩ = some (.int .i64 q.state) ∧ w1.cell? ⟨b, j * 3 + 2, none⟩ = some (.int .i64 q.load) := by
  obtain ⟨y0, y1, y2, y3, y4, y5, y6⟩ := y
  exact ⟨(hb.cell h1).trans y0, (hb.cell h1).trans y1, (hb.cell h1).trans y2, (hb.cell h2).trans y3, (hb.cell h3).trans y4, (hb.cell h3).trans y5, (hb.cell h3).trans y6⟩
/- best with the function (*fleet.Fleet).fewer$1 -/
set_option maxRecDepth 100000 in
set_option maxHeartbeats 6400000 in
theorem fleBest_gt (S : Nat → Prop) (g : Nat) (v : Value) (l : List Tide.Pod) (last most st : Int) (w : World) (h : FAt 120 S w g v l last most) :
    Calls Tryz.prog 123 #[.pointer (some ⟨g, 0, none⟩), .int .i64 st, .func (.func 145) #[] #[]] w (FleRead w (.int .i64 (Tide.idxOf (Tide.best st Tide.gtId l)))) := by
  obtain ⟨A, cap, rfl, _, _, _⟩ := h.row.slice
  have hc : w.cell? ⟨g, 0, none⟩ = some (.slice A l.length cap) := h.head.here rfl
  have hs := h.small
  have HH := Lib.hid h
  clear h
  go_enter Tryz.func123, Tryz.ntmps123
  go_wp2_with fail
  go_loopw [7, 15] (fun n i wr => ∃ k : Nat, k ≤ l.length ∧ i = .int .i64 k ∧ n = .int .i64 (Tide.idxOf (Tide.pick (fun p => p.state == st) Tide.gtId l k)) ∧ Below w.heap.size w wr) (fun _ i _ => l.length - (intOf i).toNat)
  case atStart => exact ⟨0, by omega, rfl, rfl, Below.refl _ _⟩
  case round =>
    clear hc
    obtain ⟨k, hk, rfl, rfl, hb⟩ := hrel
    by_cases hlt : k < l.length
    · obtain ⟨p, hp⟩ := Tide.get_some l hlt
      obtain ⟨b, cap', e, hS, _, _, hbl, c0, c1, c2, _⟩ := (HH.out.below hb).pod hp
      cases e
      have i0 : (0 : Int) ≤ (k : Int) := by omega
      have i1 : (k : Int) < (l.length : Int) := by omega
      have HP := Lib.hid hp
      have HB := Lib.hid (hb.alloc hb.size (.cells #[.int .i64 p.id, .int .i64 p.state, .int .i64 p.load] 40))
      have HX := Lib.hid (Tide.At.made wr 40 #[.int .i64 p.id, .int .i64 p.state, .int .i64 p.load])
      have HU := Lib.hid (Tide.pick_succ (w := fun p => p.state == st) (f := Tide.gtId) hp)
      clear hp hb
      cases hf : (p.state == st)
      · have HN := Lib.hid (show Tide.pick (fun p => p.state == st) Tide.gtId l (k + 1) = Tide.pick (fun p => p.state == st) Tide.gtId l k by rw [HU.out]; simp only [hf]; rfl)
        go_wp2_with fail
        go_quiet (fail)
        go_wp2_with fail
        go_roundw
        case rel => exact ⟨k + 1, by omega, by go_num, by rw [HN.out], fle_drewN HB.out _⟩
        case measure => simp [intOf]; omega
      · cases hj : Tide.pick (fun p => p.state == st) Tide.gtId l k with
        | none =>
          have HN := Lib.hid (show Tide.pick (fun p => p.state == st) Tide.gtId l (k + 1) = some k by rw [HU.out, hj]; simp only [hf, Tide.beats]; rfl)
          simp only [Tide.idxOf]
          clear hj
          go_wp2_with fail
          go_quiet (fail)
          go_wp2_with fail
          go_roundw
          case rel => exact ⟨k + 1, by omega, by go_num, by rw [HN.out] <;> rfl, fle_drewN HB.out _⟩
          case measure => simp [intOf]; omega
        | some j =>
          obtain ⟨hjk, q, hq, _⟩ := Tide.pick_lt hj
          obtain ⟨b', cap', e, _, _, _, _, d0, d1, d2, _⟩ := (HH.out.below HB.out).pod hq
          cases e
          have hc : (wr.alloc (.cells #[.int .i64 p.id, .int .i64 p.state, .int .i64 p.load] 40)).cell? ⟨g, 0, none⟩ = some (.slice (some ⟨b, 0, none⟩) l.length cap) := (HH.out.below HB.out).head.here rfl
          simp only [Tide.idxOf]
          have j0 : (0 : Int) ≤ (j : Int) := by omega
          have j1 : (j : Int) < (l.length : Int) := by omega
          have HL := Lib.hid (show Tide.pick (fun p => p.state == st) Tide.gtId l (k + 1) = if Tide.gtId p q then some k else some j by rw [HU.out, hj]; simp only [hf, Tide.beats, hq, Bool.true_and])
          have x0 := HX.out.here (i := 0) rfl; have x1 := HX.out.here (i := 1) rfl; have x2 := HX.out.here (i := 2) rfl
          clear hj hq
          go_upto_region 5 with fail
          clear c0 c1 c2
          generalize wr.alloc (.cells #[.int .i64 p.id, .int .i64 p.state, .int .i64 p.load] 40) = W at HB HX hc d0 d1 d2 x0 x1 x2 ⊢
          go_wp2_with fail
          have y : W.drew.cell? ⟨wr.heap.size, 0, none⟩ = some (.int .i64 p.id) ∧ W.drew.cell? ⟨wr.heap.size, 1, none⟩ = some (.int .i64 p.state) ∧ W.drew.cell? ⟨wr.heap.size, 2, none⟩ = some (.int .i64 p.load) ∧ W.drew.cell? ⟨g, 0, none⟩ = some (.slice (some ⟨b, 0, none⟩) l.length cap) ∧ W.drew.cell? ⟨b, j * 3, none⟩ = some (.int .i64 q.id) ∧ W.drew.cell? ⟨b, j * 3 + 1, none⟩ = some (.int .i64 q.state) ∧ W.drew.cell? ⟨b, j * 3 + 2, none⟩ = some (.int .i64 q.load) := ⟨x0, x1, x2, hc, d0, d1, d2⟩
          have hlt1 : wr.heap.size < W.drew.heap.size := HX.out.inside
          have hlt2 : g < W.drew.heap.size := World.block_lt_of_cell? W _ hc
          have hlt3 : b < W.drew.heap.size := World.block_lt_of_cell? W _ d0
          obtain ⟨ls, hls⟩ : ∃ ls, Hid (Tide.gtId p q = ls) := ⟨_, Lib.hid rfl⟩
          rw [hls.out] at HL
          go_region_held3 (fun w' => w'.cell? ⟨wr.heap.size, 0, none⟩ = some (.int .i64 p.id) ∧ w'.cell? ⟨wr.heap.size, 1, none⟩ = some (.int .i64 p.state) ∧ w'.cell? ⟨wr.heap.size, 2, none⟩ = some (.int .i64 p.load) ∧ w'.cell? ⟨g, 0, none⟩ = some (.slice (some ⟨b, 0, none⟩) l.length cap) ∧ w'.cell? ⟨b, j * 3, none⟩ = some (.int .i64 q.id) ∧ w'.cell? ⟨b, j * 3 + 1, none⟩ = some (.int .i64 q.state) ∧ w'.cell? ⟨b, j * 3 + 2, none⟩ = some (.int .i64 q.load)) (first | exact y1 | exact y | go_keep) ((go_at_call 145; refine (fleLess_gt p q _).mono ?_; rintro e w1 ⟨rfl, hb1⟩; rw [hls.out]; have y1 := fle_keep7 hb1 hlt1 hlt2 hlt3 y))
          all_goals
            have HB2 := Lib.hid (HB.out.drew.trans (hb1.mono HB.out.drew.size))
            clear x0 x1 x2 hc d0 d1 d2 y hb1 y1 hlt1 hlt2 hlt3 hls
            simp only [show decide ((j : Int) < 0) = false from decide_eq_false (by omega), Bool.false_or]
            cases ls
            · have HN := Lib.hid HL.out
              go_wp2_with fail
              go_roundw
              case rel => exact ⟨k + 1, by omega, by go_num, by rw [HN.out] <;> rfl, HB2.out⟩
              case measure => simp [intOf]; omega
            · have HN := Lib.hid HL.out
              go_wp2_with fail
              go_roundw
              case rel => exact ⟨k + 1, by omega, by go_num, by rw [HN.out] <;> rfl, HB2.out⟩
              case measure => simp [intOf]; omega
    · have hke : k = l.length := by omega
      subst hke
      have HB := Lib.hid hb
      clear hb
      go_wp2_with fail
      go_ret
      exact ⟨rfl, HB.out⟩
/- best with the function (*fleet.Fleet).fewer$2 -/
set_option maxRecDepth 100000 in
set_option maxHeartbeats 6400000 in
theorem fleBest_both (S : Nat → Prop) (g : Nat) (v : Value) (l : List Tide.Pod) (last most st : Int) (w : World) (h : FAt 120 S w g v l last most) :
    Calls Tryz.prog 123 #[.pointer (some ⟨g, 0, none⟩), .int .i64 st, .func (.func 146) #[] #[]] w (FleRead w (.int .i64 (Tide.idxOf (Tide.best st Tide.ltBoth l)))) := by
  obtain ⟨A, cap, rfl, _, _, _⟩ := h.row.slice
  have hc : w.cell? ⟨g, 0, none⟩ = some (.slice A l.length cap) := h.head.here rfl
  have hs := h.small
  have HH := Lib.hid h
  clear h
  go_enter Tryz.func123, Tryz.ntmps123
  go_wp2_with fail
  go_loopw [7, 15] (fun n i wr => ∃ k : Nat, k ≤ l.length ∧ i = .int .i64 k ∧ n = .int .i64 (Tide.idxOf (Tide.pick (fun p => p.state == st) Tide.ltBoth l k)) ∧ Below w.heap.size w wr) (fun _ i _ => l.length - (intOf i).toNat)
  case atStart => exact ⟨0, by omega, rfl, rfl, Below.refl _ _⟩
  case round =>
    clear hc
    obtain ⟨k, hk, rfl, rfl, hb⟩ := hrel
    by_cases hlt : k < l.length
    · obtain ⟨p, hp⟩ := Tide.get_some l hlt
      obtain ⟨b, cap', e, hS, _, _, hbl, c0, c1, c2, _⟩ := (HH.out.below hb).pod hp
      cases e
      have i0 : (0 : Int) ≤ (k : Int) := by omega
      have i1 : (k : Int) < (l.length : Int) := by omega
      have HP := Lib.hid hp
      have HB := Lib.hid (hb.alloc hb.size (.cells #[.int .i64 p.id, .int .i64 p.state, .int .i64 p.load] 40))
      have HX := Lib.hid (Tide.At.made wr 40 #[.int .i64 p.id, .int .i64 p.state, .int .i64 p.load])
      have HU := Lib.hid (Tide.pick_succ (w := fun p => p.state == st) (f := Tide.ltBoth) hp)
      clear hp hb
      cases hf : (p.state == st)
      · have HN := Lib.hid (show Tide.pick (fun p => p.state == st) Tide.ltBoth l (k + 1) = Tide.pick (fun p => p.state == st) Tide.ltBoth l k by rw [HU.out]; simp only [hf]; rfl)
        go_wp2_with fail
        go_quiet (fail)
        go_wp2_with fail
        go_roundw
        case rel => exact ⟨k + 1, by omega, by go_num, by rw [HN.out], fle_drewN HB.out _⟩
        case measure => simp [intOf]; omega
      · cases hj : Tide.pick (fun p => p.state == st) Tide.ltBoth l k with
        | none =>
          have HN := Lib.hid (show Tide.pick (fun p => p.state == st) Tide.ltBoth l (k + 1) = some k by rw [HU.out, hj]; simp only [hf, Tide.beats]; rfl)
          simp only [Tide.idxOf]
          clear hj
          go_wp2_with fail
          go_quiet (fail)
          go_wp2_with fail
          go_roundw
          case rel => exact ⟨k + 1, by omega, by go_num, by rw [HN.out] <;> rfl, fle_drewN HB.out _⟩
          case measure => simp [intOf]; omega
        | some j =>
          obtain ⟨hjk, q, hq, _⟩ := Tide.pick_lt hj
          obtain ⟨b', cap', e, _, _, _, _, d0, d1, d2, _⟩ := (HH.out.below HB.out).pod hq
          cases e
          have hc : (wr.alloc (.cells #[.int .i64 p.id, .int .i64 p.state, .int .i64 p.load] 40)).cell? ⟨g, 0, none⟩ = some (.slice (some ⟨b, 0, none⟩) l.length cap) := (HH.out.below HB.out).head.here rfl
          simp only [Tide.idxOf]
          have j0 : (0 : Int) ≤ (j : Int) := by omega
          have j1 : (j : Int) < (l.length : Int) := by omega
          have HL := Lib.hid (show Tide.pick (fun p => p.state == st) Tide.ltBoth l (k + 1) = if Tide.ltBoth p q then some k else some j by rw [HU.out, hj]; simp only [hf, Tide.beats, hq, Bool.true_and])
          have x0 := HX.out.here (i := 0) rfl; have x1 := HX.out.here (i := 1) rfl; have x2 := HX.out.here (i := 2) rfl
          clear hj hq
          go_upto_region 5 with fail
          clear c0 c1 c2
          generalize wr.alloc (.cells #[.int .i64 p.id, .int .i64 p.state, .int .i64 p.load] 40) = W at HB HX hc d0 d1 d2 x0 x1 x2 ⊢
          go_wp2_with fail
          have y : W.drew.cell? ⟨wr.heap.size, 0, none⟩ = some (.int .i64 p.id) ∧ W.drew.cell? ⟨wr.heap.size, 1, none⟩ = some (.int .i64 p.state) ∧ W.drew.cell? ⟨wr.heap.size, 2, none⟩ = some (.int .i64 p.load) ∧ W.drew.cell? ⟨g, 0, none⟩ = some (.slice (some ⟨b, 0, none⟩) l.length cap) ∧ W.drew.cell? ⟨b, j * 3, none⟩ = some (.int .i64 q.id) ∧ W.drew.cell? ⟨b, j * 3 + 1, none⟩ = some (.int .i64 q.state) ∧ W.drew.cell? ⟨b, j * 3 + 2, none⟩ = some (.int .i64 q.load) := ⟨x0, x1, x2, hc, d0, d1, d2⟩
          have hlt1 : wr.heap.size < W.drew.heap.size := HX.out.inside
          have hlt2 : g < W.drew.heap.size := World.block_lt_of_cell? W _ hc
          have hlt3 : b < W.drew.heap.size := World.block_lt_of_cell? W _ d0
          obtain ⟨ls, hls⟩ : ∃ ls, Hid (Tide.ltBoth p q = ls) := ⟨_, Lib.hid rfl⟩
          rw [hls.out] at HL
          go_region_held3 (fun w' => w'.cell? ⟨wr.heap.size, 0, none⟩ = some (.int .i64 p.id) ∧ w'.cell? ⟨wr.heap.size, 1, none⟩ = some (.int .i64 p.state) ∧ w'.cell? ⟨wr.heap.size, 2, none⟩ = some (.int .i64 p.load) ∧ w'.cell? ⟨g, 0, none⟩ = some (.slice (some ⟨b, 0, none⟩) l.length cap) ∧ w'.cell? ⟨b, j * 3, none⟩ = some (.int .i64 q.id) ∧ w'.cell? ⟨b, j * 3 + 1, none⟩ = some (.int .i64 q.state) ∧ w'.cell? ⟨b, j * 3 + 2, none⟩ = some (.int .i64 q.load)) (first | exact y1 | exact y | go_keep) ((go_at_call 146; refine (fleLess_both p q _).mono ?_; rintro e w1 ⟨rfl, hb1⟩; rw [hls.out]; have y1 := fle_keep7 hb1 hlt1 hlt2 hlt3 y))
          all_goals
            have HB2 := Lib.hid (HB.out.drew.trans (hb1.mono HB.out.drew.size))
            clear x0 x1 x2 hc d0 d1 d2 y hb1 y1 hlt1 hlt2 hlt3 hls
            simp only [show decide ((j : Int) < 0) = false from decide_eq_false (by omega), Bool.false_or]
            cases ls
            · have HN := Lib.hid HL.out
              go_wp2_with fail
              go_roundw
              case rel => exact ⟨k + 1, by omega, by go_num, by rw [HN.out] <;> rfl, HB2.out⟩
              case measure => simp [intOf]; omega
            · have HN := Lib.hid HL.out
              go_wp2_with fail
              go_roundw
              case rel => exact ⟨k + 1, by omega, by go_num, by rw [HN.out] <;> rfl, HB2.out⟩
              case measure => simp [intOf]; omega
    · have hke : k = l.length := by omega
      subst hke
      have HB := Lib.hid hb
      clear hb
      go_wp2_with fail
      go_ret
      exact ⟨rfl, HB.out⟩
/- best with the function (*fleet.Fleet).Give$1 -/
set_option maxRecDepth 100000 in
set_option maxHeartbeats 6400000 in
theorem fleBest_lt (S : Nat → Prop) (g : Nat) (v : Value) (l : List Tide.Pod) (last most st : Int) (w : World) (h : FAt 120 S w g v l last most) :
    Calls Tryz.prog 123 #[.pointer (some ⟨g, 0, none⟩), .int .i64 st, .func (.func 124) #[] #[]] w (FleRead w (.int .i64 (Tide.idxOf (Tide.best st Tide.ltLoad l)))) := by
  obtain ⟨A, cap, rfl, _, _, _⟩ := h.row.slice
  have hc : w.cell? ⟨g, 0, none⟩ = some (.slice A l.length cap) := h.head.here rfl
  have hs := h.small
  have HH := Lib.hid h
  clear h
  go_enter Tryz.func123, Tryz.ntmps123
  go_wp2_with fail
  go_loopw [7, 15] (fun n i wr => ∃ k : Nat, k ≤ l.length ∧ i = .int .i64 k ∧ n = .int .i64 (Tide.idxOf (Tide.pick (fun p => p.state == st) Tide.ltLoad l k)) ∧ Below w.heap.size w wr) (fun _ i _ => l.length - (intOf i).toNat)
  case atStart => exact ⟨0, by omega, rfl, rfl, Below.refl _ _⟩
  case round =>
    clear hc
    obtain ⟨k, hk, rfl, rfl, hb⟩ := hrel
    by_cases hlt : k < l.length
    · obtain ⟨p, hp⟩ := Tide.get_some l hlt
      obtain ⟨b, cap', e, hS, _, _, hbl, c0, c1, c2, _⟩ := (HH.out.below hb).pod hp
      cases e
      have i0 : (0 : Int) ≤ (k : Int) := by omega
      have i1 : (k : Int) < (l.length : Int) := by omega
      have HP := Lib.hid hp
      have HB := Lib.hid (hb.alloc hb.size (.cells #[.int .i64 p.id, .int .i64 p.state, .int .i64 p.load] 40))
      have HX := Lib.hid (Tide.At.made wr 40 #[.int .i64 p.id, .int .i64 p.state, .int .i64 p.load])
      have HU := Lib.hid (Tide.pick_succ (w := fun p => p.state == st) (f := Tide.ltLoad) hp)
      clear hp hb
      cases hf : (p.state == st)
      · have HN := Lib.hid (show Tide.pick (fun p => p.state == st) Tide.ltLoad l (k + 1) = Tide.pick (fun p => p.state == st) Tide.ltLoad l k by rw [HU.out]; simp only [hf]; rfl)
        go_wp2_with fail
        go_quiet (fail)
        go_wp2_with fail
        go_roundw
        case rel => exact ⟨k + 1, by omega, by go_num, by rw [HN.out], fle_drewN HB.out _⟩
        case measure => simp [intOf]; omega
      · cases hj : Tide.pick (fun p => p.state == st) Tide.ltLoad l k with
        | none =>
          have HN := Lib.hid (show Tide.pick (fun p => p.state == st) Tide.ltLoad l (k + 1) = some k by rw [HU.out, hj]; simp only [hf, Tide.beats]; rfl)
          simp only [Tide.idxOf]
          clear hj
          go_wp2_with fail
          go_quiet (fail)
          go_wp2_with fail
          go_roundw
          case rel => exact ⟨k + 1, by omega, by go_num, by rw [HN.out] <;> rfl, fle_drewN HB.out _⟩
          case measure => simp [intOf]; omega
        | some j =>
          obtain ⟨hjk, q, hq, _⟩ := Tide.pick_lt hj
          obtain ⟨b', cap', e, _, _, _, _, d0, d1, d2, _⟩ := (HH.out.below HB.out).pod hq
          cases e
          have hc : (wr.alloc (.cells #[.int .i64 p.id, .int .i64 p.state, .int .i64 p.load] 40)).cell? ⟨g, 0, none⟩ = some (.slice (some ⟨b, 0, none⟩) l.length cap) := (HH.out.below HB.out).head.here rfl
          simp only [Tide.idxOf]
          have j0 : (0 : Int) ≤ (j : Int) := by omega
          have j1 : (j : Int) < (l.length : Int) := by omega
          have HL := Lib.hid (show Tide.pick (fun p => p.state == st) Tide.ltLoad l (k + 1) = if Tide.ltLoad p q then some k else some j by rw [HU.out, hj]; simp only [hf, Tide.beats, hq, Bool.true_and])
          have x0 := HX.out.here (i := 0) rfl; have x1 := HX.out.here (i := 1) rfl; have x2 := HX.out.here (i := 2) rfl
          clear hj hq
          go_upto_region 5 with fail
          clear c0 c1 c2
          generalize wr.alloc (.cells #[.int .i64 p.id, .int .i64 p.state, .int .i64 p.load] 40) = W at HB HX hc d0 d1 d2 x0 x1 x2 ⊢
          go_wp2_with fail
          have y : W.drew.cell? ⟨wr.heap.size, 0, none⟩ = some (.int .i64 p.id) ∧ W.drew.cell? ⟨wr.heap.size, 1, none⟩ = some (.int .i64 p.state) ∧ W.drew.cell? ⟨wr.heap.size, 2, none⟩ = some (.int .i64 p.load) ∧ W.drew.cell? ⟨g, 0, none⟩ = some (.slice (some ⟨b, 0, none⟩) l.length cap) ∧ W.drew.cell? ⟨b, j * 3, none⟩ = some (.int .i64 q.id) ∧ W.drew.cell? ⟨b, j * 3 + 1, none⟩ = some (.int .i64 q.state) ∧ W.drew.cell? ⟨b, j * 3 + 2, none⟩ = some (.int .i64 q.load) := ⟨x0, x1, x2, hc, d0, d1, d2⟩
          have hlt1 : wr.heap.size < W.drew.heap.size := HX.out.inside
          have hlt2 : g < W.drew.heap.size := World.block_lt_of_cell? W _ hc
          have hlt3 : b < W.drew.heap.size := World.block_lt_of_cell? W _ d0
          obtain ⟨ls, hls⟩ : ∃ ls, Hid (Tide.ltLoad p q = ls) := ⟨_, Lib.hid rfl⟩
          rw [hls.out] at HL
          go_region_held3 (fun w' => w'.cell? ⟨wr.heap.size, 0, none⟩ = some (.int .i64 p.id) ∧ w'.cell? ⟨wr.heap.size, 1, none⟩ = some (.int .i64 p.state) ∧ w'.cell? ⟨wr.heap.size, 2, none⟩ = some (.int .i64 p.load) ∧ w'.cell? ⟨g, 0, none⟩ = some (.slice (some ⟨b, 0, none⟩) l.length cap) ∧ w'.cell? ⟨b, j * 3, none⟩ = some (.int .i64 q.id) ∧ w'.cell? ⟨b, j * 3 + 1, none⟩ = some (.int .i64 q.state) ∧ w'.cell? ⟨b, j * 3 + 2, none⟩ = some (.int .i64 q.load)) (first | exact y1 | exact y | go_keep) ((go_at_call 124; refine (fleLess_lt p q _).mono ?_; rintro e w1 ⟨rfl, hb1⟩; rw [hls.out]; have y1 := fle_keep7 hb1 hlt1 hlt2 hlt3 y))
          all_goals
            have HB2 := Lib.hid (HB.out.drew.trans (hb1.mono HB.out.drew.size))
            clear x0 x1 x2 hc d0 d1 d2 y hb1 y1 hlt1 hlt2 hlt3 hls
            simp only [show decide ((j : Int) < 0) = false from decide_eq_false (by omega), Bool.false_or]
            cases ls
            · have HN := Lib.hid HL.out
              go_wp2_with fail
              go_roundw
              case rel => exact ⟨k + 1, by omega, by go_num, by rw [HN.out] <;> rfl, HB2.out⟩
              case measure => simp [intOf]; omega
            · have HN := Lib.hid HL.out
              go_wp2_with fail
              go_roundw
              case rel => exact ⟨k + 1, by omega, by go_num, by rw [HN.out] <;> rfl, HB2.out⟩
              case measure => simp [intOf]; omega
    · have hke : k = l.length := by omega
      subst hke
      have HB := Lib.hid hb
      clear hb
      go_wp2_with fail
      go_ret
      exact ⟨rfl, HB.out⟩
open Go.RowKit
def fle_zero : List Value := [.int .i64 0, .int .i64 0, .int .i64 0]
theorem fle_clear (w : World) (ty : TypeId) (b o c : Nat) (hc : ∀ j, j < 3 → (w.cell? ⟨b, o + j, none⟩).isSome = true) (hf : ∀ j, j < 3 → w.frozen? ⟨b, o + j, none⟩ = false) :
    (Builtin.clear_ #[38] ty #[.slice (some ⟨b, o, none⟩) 1 c]).run Tryz.prog w = .ok (.tuple #[]) (w.setCells b o fle_zero) := by
  have hv : ∀ w, (zeroValue 40).run Tryz.prog w = .ok (.agg #[.int .i64 0, .int .i64 0, .int .i64 0]) w := fun w => by kernel_rfl
  have hst := run_storeCells_cells (P := Tryz.prog) b o fle_zero 0 w (by simpa [fle_zero] using hc) (by simpa [fle_zero] using hf) (by simp [fle_zero, Value.oneCell'])
  simp only [Nat.add_zero] at hst
  have hzc : (Builtin.zeroCells (Value.agg #[.int .i64 0, .int .i64 0, .int .i64 0]).cells 1).toList = fle_zero := by kernel_rfl
  simp [Builtin.clear_, run_underlying Tryz.underlying38, hv, hzc, hst]
set_option maxRecDepth 100000 in
set_option maxHeartbeats 4000000 in
theorem fle_delete (S : Nat → Prop) (w : World) (b cap n i : Nat) (xs : List Value) (h : Tide.OwnRow S w 40 3 (.slice (some ⟨b, 0, none⟩) n cap) n xs) (hi : i < n) (h1 : ∀ u ∈ xs, u.oneCell' = true) :
    Calls Tryz.prog 127 #[.slice (some ⟨b, 0, none⟩) n cap, .int .i64 i, .int .i64 ((i : Int) + 1)] w fun e w' => e = .returned (.slice (some ⟨b, 0, none⟩) (n - 1) cap) ∧
      Tide.OwnRow S w' 40 3 (.slice (some ⟨b, 0, none⟩) (n - 1) cap) (n - 1) (xs.take (i * 3) ++ xs.drop ((i + 1) * 3)) ∧ Tide.Chg (fun x => x = b) w w' := by
  obtain ⟨b', cap', e, hS, hcap, hmax, hrow⟩ := h.form (by omega)
  cases e
  have hlen := h.1
  obtain ⟨news, hnews⟩ : ∃ news, news = xs.drop ((i + 1) * 3) := ⟨_, rfl⟩
  have hnl : news.length = (n - (i + 1)) * 3 := by rw [hnews, List.length_drop, hlen]; omega
  obtain ⟨A, hA, hsrc⟩ : ∃ A : Addr, (if cap = i + 1 then some (⟨b, 0, none⟩ : Addr) else some ⟨b, (i + 1) * 3, none⟩) = some A ∧ Hid (∀ t u, news[t]? = some u → w.drew.cell? (A.add t) = some u) := by
    by_cases hc : cap = i + 1
    · refine ⟨⟨b, 0, none⟩, by simp [hc], fun t u hu => ?_⟩
      have h0 : news.length = 0 := by rw [hnl]; omega
      rw [List.length_eq_zero_iff.1 h0] at hu
      simp at hu
    · refine ⟨⟨b, (i + 1) * 3, none⟩, by simp [hc], fun t u hu => ?_⟩
      rw [hnews, List.getElem?_drop] at hu
      rw [Addr.add_lit]
      exact hrow.cell hu
  have s2 : Hid (∀ u ∈ news, u.oneCell' = true) := fun u hu => h1 u (List.mem_of_mem_drop (by rw [hnews] at hu; exact hu))
  have s3 : Hid (∀ t, t < news.length → (w.drew.cell? ⟨b, 0 + i * 3 + t, none⟩).isSome = true ∧ w.drew.frozen? ⟨b, 0 + i * 3 + t, none⟩ = false) := by
    intro t ht
    rw [hnl] at ht
    have hlt : 0 + i * 3 + t < xs.length := by rw [hlen]; omega
    exact ⟨by show (w.cell? _).isSome = true; rw [hrow.cell (List.getElem?_eq_getElem hlt)]; rfl, hrow.soft _⟩
  obtain ⟨W1, hW1⟩ : ∃ W1, W1 = w.drew.setCells b (0 + i * 3) news := ⟨_, rfl⟩
  have hR1 : Tide.RowIn W1 b 40 (cap * 3) (xs.take (0 + i * 3) ++ news ++ xs.drop (0 + i * 3 + news.length)) := by
    rw [hW1]; exact Tide.RowIn.puts news _ hrow.drew (by rw [hlen, hnl]; omega)
  have hch1 : Tide.Chg (fun x => x = b) w W1 := by rw [hW1]; exact Tide.Chg.puts (S := fun x => x = b) (.inl rfl) _ _ (Tide.Chg.refl _ w).drew
  have hl1 : (xs.take (0 + i * 3) ++ news ++ xs.drop (0 + i * 3 + news.length)).length = n * 3 := by simp [hnl, hlen]; omega
  have hcl : ∀ ty c, (Builtin.clear_ #[38] ty #[.slice (some ⟨b, (i + (n - (i + 1))) * 3, none⟩) (n - (i + (n - (i + 1)))) c]).run Tryz.prog W1 = .ok (.tuple #[]) (W1.setCells b ((n - 1) * 3) fle_zero) := by
    rw [show i + (n - (i + 1)) = n - 1 by omega, show n - (n - 1) = 1 by omega]
    exact fun ty c => fle_clear W1 ty b _ _ (fun t ht => by
      rw [hR1.cell (List.getElem?_eq_getElem (show (n - 1) * 3 + t < _ by rw [hl1]; omega))]; rfl) (fun t ht => hR1.soft _)
  have hfin : Tide.OwnRow S (W1.setCells b ((n - 1) * 3) fle_zero) 40 3 (.slice (some ⟨b, 0, none⟩) (n - 1) cap) (n - 1) (xs.take (i * 3) ++ xs.drop ((i + 1) * 3)) := by
    have hR2 := (Tide.RowIn.puts fle_zero ((n - 1) * 3) hR1 (by rw [hl1]; simp [fle_zero]; omega)).fewer ((n - 1) * 3)
    have e : (List.take ((n - 1) * 3) (xs.take (0 + i * 3) ++ news ++ xs.drop (0 + i * 3 + news.length)) ++ fle_zero ++ List.drop ((n - 1) * 3 + fle_zero.length) (xs.take (0 + i * 3) ++ news ++ xs.drop (0 + i * 3 + news.length))).take ((n - 1) * 3) = xs.take (i * 3) ++ xs.drop ((i + 1) * 3) := by
      have e1 : (xs.take (0 + i * 3) ++ news).length = (n - 1) * 3 := by simp [hnl, hlen]; omega
      rw [List.append_assoc, List.take_append_of_le_length (by rw [List.length_take, hl1]; omega), List.take_take, Nat.min_self, List.take_append_of_le_length (by omega), List.take_of_length_le (by omega), Nat.zero_add, hnews]
    rw [e] at hR2
    refine ⟨by simp [hlen]; omega, .inr ⟨b, cap, rfl, hS, by omega, hmax, hR2⟩⟩
  have hch2 : Tide.Chg (fun x => x = b) w (W1.setCells b ((n - 1) * 3) fle_zero) := Tide.Chg.puts (S := fun x => x = b) (.inl rfl) _ _ hch1
  have HF := Lib.hid hfin; have HC := Lib.hid hch2; have HW := Lib.hid hW1
  have q1 : i ≤ cap := by omega
  have q2 : i + 1 ≤ cap := by omega
  have q3 : (i : Int) + 1 ≤ (n : Int) := by omega
  have q6 : (0 : Int) ≤ (i : Int) + 1 := by omega
  have q4 : n ≤ cap := hcap
  have q5 : cap ≤ 9223372036854775807 := hmax
  have hsl := Lib.hid hnl
  have hn1 := Lib.hid (show i + (n - (i + 1)) = n - 1 by omega)
  have HA := Lib.hid hA
  obtain ⟨i0, hi0, hz0, hz1, hz2⟩ := info_parts fle_info
  clear h hrow hlen hnews hnl hR1 hl1 hch1 hch2 hfin hW1 h1 hcap hmax
  go_enter Tryz.func127, Tryz.ntmps127
  go_wp2_with fail
  clear hA
  go_region_law (refine step_append_room (by rfl) (.tmp 22) (.tmp 25) 38 (by rfl) 40 i0 3 Tryz.underlying38 hi0 hz1 b 0 i cap (by simp [Act.eval, Act.put]) A (n - (i + 1)) (cap - (i + 1)) news (by simp [Act.eval, Act.put, HA.out]) hsl.out hsrc.out s2.out (by omega) s3.out ?_; rw [← HW.out])
  go_wp2_with fail
  all_goals
    go_ret
    have hf := HF.out
    by_cases hcc : cap = i + 1
    · rw [hcc] at hf
      first | exact ⟨(by rw [hn1.out] <;> rfl), hf, HC.out⟩ | exact absurd hcc ‹_›
    · first | exact ⟨(by rw [hn1.out] <;> rfl), hf, HC.out⟩ | exact absurd ‹cap = i + 1› hcc
def fle_ClonePost (w : World) (n : Nat) (xs : List Value) (e : Ending) (w' : World) : Prop := ∃ v', e = .returned v' ∧ Tide.OwnRow (fun b => w.heap.size ≤ b) w' 40 3 v' n xs ∧ Below w.heap.size w w'
set_option maxRecDepth 100000 in
set_option maxHeartbeats 4000000 in
theorem fle_clone (S : Nat → Prop) (w : World) (v : Value) (n : Nat) (xs : List Value) (h : Tide.OwnRow S w 40 3 v n xs) (hn : n ≤ 100000000) (h1 : ∀ u ∈ xs, u.oneCell' = true) :
    Calls Tryz.prog 57 #[v] w (fle_ClonePost w n xs) := by
  have heq := @Lib.run_eql_slice_nil Tryz.prog
  rcases h.2 with ⟨rfl, rfl⟩ | ⟨g, cap, rfl, hS, hcap, hmax, hrow⟩
  · have hx : xs = [] := List.length_eq_zero_iff.1 (h.1.trans (Nat.zero_mul _))
    have HF := Lib.hid (show fle_ClonePost w 0 xs (.returned (.slice none 0 0)) w from ⟨_, rfl, by rw [hx]; exact Tide.OwnRow.nil _ _ _ _, Below.refl _ _⟩)
    have hq := fun w => Lib.run_eql_slice_nil (P := Tryz.prog) w 38 40 none 0 0 0 0 Tryz.underlying38
    clear h hx heq
    go_enter Tryz.func57, Tryz.ntmps57
    go_wp2_with fail
    go_ret
    exact HF.out
  · have hq := fun w => Lib.run_eql_slice_nil (P := Tryz.prog) w 38 40 (some ⟨g, 0, none⟩) n cap 0 0 Tryz.underlying38
    have hlen := h.1
    obtain ⟨i0, hi0, hz0, hz1, hz2⟩ := info_parts fle_info
    have HR := Lib.hid hrow; have H1 := Lib.hid h1; have HL := Lib.hid hlen
    have hown : (w.alloc (.cells #[] 40)).ownsRow w.heap.size 40 3 (.slice (some ⟨w.heap.size, 0, none⟩) 0 0) 0 [] := World.ownsRow_made w #[] 0 (Nat.le_refl _) (Nat.zero_le _) rfl
    have HO := Lib.hid hown
    have hm3 := Lib.hid (show 0 + n ≤ maxLen by simp only [maxLen]; omega)
    have hm4 := Lib.hid (show (0 + n) * 24 ≤ 140737488355328 by omega)
    clear h hrow h1 hlen hown hcap hmax hn heq
    go_enter Tryz.func57, Tryz.ntmps57
    go_wp2_with (at_builtin; refine wpList_append_own _ (by rfl) (.tmp 5) (.tmp 6) 38 (by rfl) w.heap.size 40 i0 (.agg #[.int .i64 0, .int .i64 0, .int .i64 0]) 3 24 Tryz.underlying38 hi0 hz0 hz1 hz2 rfl (by decide) _ _ _ rfl HO.out ⟨g, 0, none⟩ n cap xs rfl HL.out ?c1 H1.out hm3.out hm4.out ?c5 ?_)
    case c1 => exact fun j u hu => by rw [Addr.add_lit, Nat.zero_add]; exact (HR.out.alloc _).cell hu
    case c5 => simp
    intro v' w1 hown1 hg1 _
    have HF := Lib.hid (show fle_ClonePost w n xs (.returned v') w1 from by
      refine ⟨v', rfl, ?_, (((Below.refl _ w).alloc (Nat.le_refl _) _)).grown hg1 (by simp) (fun k hk => by simp [Value.ownBlock] at hk; omega)⟩
      exact Tide.OwnRow.of_owns hown1 (Tide.own_ge hown1))
    clear hown1 hg1
    go_wp2_with fail
    go_ret
    exact HF.out
/- slices.IndexFunc at []api.Pod, the function (*fleet.Fleet).find$1 -/
set_option maxRecDepth 100000 in
set_option maxHeartbeats 4000000 in
theorem fleF_index (B : Nat) (p : Tide.Pod → Bool) (l : List Tide.Pod) (v : Value) (w : World) (hv : Tide.ListIn w 3 Tide.Pod.enc v l) (hlen : l.length ≤ 100000000)
    (hp : ∀ (m : Tide.Pod) (W : World), Below w.heap.size w W → Calls Tryz.prog 126 #[.agg #[.int .i64 m.id, .int .i64 m.state, .int .i64 m.load], .pointer (some ⟨B, 0, none⟩)] W fun e W' => e = .returned (.bool (p m)) ∧ Below W.heap.size W W') :
    Calls Tryz.prog 125 #[v, .func (.func 126) #[] #[.pointer (some ⟨B, 0, none⟩)]] w fun e w' => e = .returned (.int .i64 (Tide.idxOf (Tide.firstAt p l))) ∧ Below w.heap.size w w' := by
  obtain ⟨A, cap, rfl, hA⟩ := hv
  have HA := Lib.hid hA; have HP := Lib.hid hp
  clear hA hp
  go_enter Tryz.func125, Tryz.ntmps125
  go_wp2_with fail
  go_loopw [8] (fun i wr => ∃ k : Nat, k ≤ l.length ∧ i = .int .i64 k ∧ Hid (∀ (t : Nat) (b : Tide.Pod), t < k → l[t]? = some b → p b = false) ∧ Below w.heap.size w wr) (fun i _ => l.length - (intOf i).toNat)
  case atStart => exact ⟨0, by omega, rfl, fun t b ht => by omega, Below.refl _ _⟩
  case round =>
    obtain ⟨k, hk, rfl, hno, hb⟩ := hrel
    by_cases hlt : k < l.length
    · obtain ⟨m, hm⟩ := Tide.get_some l hlt
      obtain ⟨b, off, rfl, hbl, hc⟩ := HA.out (by omega)
      have cl : ∀ (j : Nat) (u : Value), m.enc[j]? = some u → wr.cell? ⟨b, off + k * 3 + j, none⟩ = some u := fun j u hu => (hb.cell (p := ⟨b, off + k * 3 + j, none⟩) hbl).trans (hc k m j u hm hu)
      have c0 : wr.cell? ⟨b, off + k * 3, none⟩ = _ := cl 0 _ rfl
      have c1 := cl 1 _ rfl; have c2 := cl 2 _ rfl
      have i0 : (0 : Int) ≤ (k : Int) := by omega
      have i1 : (k : Int) < (l.length : Int) := by omega
      have HM := Lib.hid hm
      clear hc cl hm
      go_wp2_with fail
      refine (HP.out m _ hb).mono ?_
      rintro e w1 ⟨rfl, hb1⟩
      have HB := Lib.hid (hb.trans (hb1.mono hb.size))
      cases hpm : p m
      · have HN := Lib.hid (show ∀ (t : Nat) (b : Tide.Pod), t < k + 1 → l[t]? = some b → p b = false from fun t b ht hb => by
          rcases Nat.lt_succ_iff_lt_or_eq.mp ht with h | h
          · exact hno.out t b h hb
          · subst h; rw [HM.out] at hb; cases hb; exact hpm)
        clear hb hb1 hno hpm
        go_wp2_with fail
        go_roundw
        case rel => exact ⟨k + 1, by omega, by go_num, HN, HB.out⟩
        case measure => simp [intOf]; omega
      · have HN := Lib.hid (Tide.firstAt_some hno.out HM.out hpm)
        clear hb hb1 hno hpm
        go_wp2_with fail
        go_ret
        exact ⟨by rw [HN.out]; rfl, HB.out⟩
    · have hke : k = l.length := by omega
      have HN := Lib.hid (Tide.firstAt_none (p := p) (l := l) (fun t b hb => hno.out t b (by rw [hke]; exact Tide.get_lt hb) hb))
      have HB := Lib.hid hb
      clear hb hno hke
      go_wp2_with fail
      go_ret
      exact ⟨by rw [HN.out]; rfl, HB.out⟩
theorem fle_one {l : List Tide.Pod} : ∀ u ∈ l.flatMap Tide.Pod.enc, u.oneCell' = true := by
  intro u hu
  obtain ⟨p, _, hp⟩ := List.mem_flatMap.1 hu
  simp [Tide.Pod.enc] at hp
  rcases hp with h | h | h <;> subst h <;> rfl
section
variable {T : TypeId} {S : Nat → Prop} {w w3 : World} {g b cap n : Nat} {l : List Tide.Pod} {last most : Int}
theorem FAt.cut (h : FAt T S w g (.slice (some ⟨b, 0, none⟩) l.length cap) l last most) {i : Nat} (hi : i < l.length) (hgb : g ≠ b)
    (h3 : Tide.OwnRow S w3 40 3 (.slice (some ⟨b, 0, none⟩) (l.length - 1) cap) (l.length - 1) ((l.flatMap Tide.Pod.enc).take (i * 3) ++ (l.flatMap Tide.Pod.enc).drop ((i + 1) * 3))) (hc : Tide.Chg (fun x => x = b) w w3) :
    w3.cell? ⟨g, 0, none⟩ = some (.slice (some ⟨b, 0, none⟩) l.length cap) ∧ w3.frozen? ⟨g, 0, none⟩ = false ∧
    FAt T S (w3.setCell ⟨g, 0, none⟩ (.slice (some ⟨b, 0, none⟩) (l.length - 1) cap)) g (.slice (some ⟨b, 0, none⟩) (l.length - 1) cap) (l.eraseIdx i) last most ∧ Tide.Chg S w (w3.setCell ⟨g, 0, none⟩ (.slice (some ⟨b, 0, none⟩) (l.length - 1) cap)) := by
  obtain ⟨b', cap', e, hS, _⟩ := h.row.form (by omega)
  cases e
  have hd := h.head.chg hc hgb
  have e1 : (l.eraseIdx i).length = l.length - 1 := by rw [List.length_eraseIdx]; simp [hi]
  refine ⟨hd.here rfl, hd.soft 0, ⟨hd.put 0 _, ?_, h.own, by rw [e1]; have := h.small; omega, fun c hc' => by rw [Tide.size_put]; exact Nat.lt_of_lt_of_le (h.lim c hc') hc.size⟩, (hc.mono (fun k _ e => by rw [e]; exact hS)).put (.inl h.own) _⟩
  rw [e1, Tide.flat_erase Tide.Pod.enc_length]
  exact h3.aside (p := ⟨g, 0, none⟩) (fun c hc' => by simp [Value.ownBlock] at hc'; show c ≠ g; omega) _
theorem FAt.put (h : FAt T S w g (.slice (some ⟨b, 0, none⟩) n cap) l last most) (hT : T ≠ 40) {k j : Nat} {r r' : Tide.Pod} {u : Value} (hk : l[k]? = some r) (hj : j < 3) (hu : r.enc.set j u = r'.enc) :
    FAt T S (w.setCell ⟨b, k * 3 + j, none⟩ u) g (.slice (some ⟨b, 0, none⟩) n cap) (l.set k r') last most ∧ Tide.Chg S w (w.setCell ⟨b, k * 3 + j, none⟩ u) := by
  have hkl := Tide.get_lt hk
  obtain ⟨b', cap', e, hS, _⟩ := h.row.form (by omega)
  cases e
  have hgb : b ≠ g := h.apart hT b rfl
  have p1 := h.row.put (Tide.flat_lt Tide.Pod.enc_length hkl hj) u
  rw [Tide.flat_set Tide.Pod.enc_length hk hj hu] at p1
  refine ⟨⟨h.head.other (p := ⟨b, k * 3 + j, none⟩) (Ne.symm hgb) _, ?_, h.own, by rw [List.length_set]; exact h.small, fun c hc => by rw [Tide.size_put]; exact h.lim c hc⟩, (Tide.Chg.refl S w).put (p := ⟨b, k * 3 + j, none⟩) (.inl hS) _⟩
  rw [List.length_set]; exact p1
end
def FlePost (T : TypeId) (S : Nat → Prop) (w : World) (g : Nat) (l : List Tide.Pod) (last most : Int) (e : Ending) (w' : World) : Prop :=
  (∃ x, e = .returned x) ∧ (∃ v, FAt T S w' g v l last most) ∧ Tide.Chg S w w'
set_option maxRecDepth 100000 in
set_option maxHeartbeats 1600000 in
theorem fleGone (S : Nat → Prop) (g : Nat) (v : Value) (l : List Tide.Pod) (last most : Int) (i : Nat) (w : World) (h : FAt 120 S w g v l last most) (hi : i < l.length) :
    Calls Tryz.prog 101 #[.pointer (some ⟨g, 0, none⟩), .int .i64 i] w (FlePost 120 S w g (l.eraseIdx i) last most) := by
  obtain ⟨p, hp⟩ := Tide.get_some l hi
  obtain ⟨b, cap, rfl, hS, _, _, hbl, _⟩ := h.pod hp
  have hc : w.cell? ⟨g, 0, none⟩ = some (.slice (some ⟨b, 0, none⟩) l.length cap) := h.head.here rfl
  have hgb := h.apart (by decide) b rfl
  have hs := h.small
  have HH := Lib.hid h
  have HG := Lib.hid (Ne.symm hgb)
  have hil : (i : Int) < (l.length : Int) := by omega
  clear h hp hgb
  go_enter Tryz.func101, Tryz.ntmps101
  go_wp2_with fail
  refine (fle_delete S _ b cap _ i _ HH.out.row hi fle_one).mono ?_
  rintro e w3 ⟨rfl, h3, c3⟩
  obtain ⟨q0, q1, q2⟩ := HH.out.cut hi HG.out h3 c3
  have Q := Lib.hid q2
  clear h3 c3 q2 hc
  go_wp2_with fail
  go_end0
  exact ⟨⟨_, rfl⟩, ⟨_, Q.out.1⟩, Q.out.2⟩
set_option maxHeartbeats 400000 in
theorem fleIs (id : Int) (B : Nat) (m : Tide.Pod) (W : World) (h : W.cell? ⟨B, 0, none⟩ = some (.int .i64 id)) : Calls Tryz.prog 126 #[.agg #[.int .i64 m.id, .int .i64 m.state, .int .i64 m.load], .pointer (some ⟨B, 0, none⟩)] W fun e W' => e = .returned (.bool (Tide.podIs id m)) ∧ Below W.heap.size W W' := by
  have hB := World.block_lt_of_cell? W _ h
  simp only at hB
  go_enter Tryz.func126, Tryz.ntmps126
  go_wp2_with fail
  go_ret
  exact ⟨rfl, (Below.refl _ _).alloc (Nat.le_refl _) _⟩
set_option maxRecDepth 100000 in
set_option maxHeartbeats 1600000 in
theorem fleFind (S : Nat → Prop) (g : Nat) (v : Value) (l : List Tide.Pod) (last most id : Int) (w : World) (h : FAt 120 S w g v l last most) :
    Calls Tryz.prog 100 #[.pointer (some ⟨g, 0, none⟩), .int .i64 id] w (FleRead w (.int .i64 (Tide.idxOf (Tide.findP l id)))) := by
  have HX := Lib.hid (Tide.At.made w 3 #[.int .i64 id])
  have HB := Lib.hid ((Below.refl w.heap.size w).alloc (Nat.le_refl _) (.cells #[.int .i64 id] 3))
  have HH := Lib.hid (h.alloc (.cells #[.int .i64 id] 3))
  have hc : w.cell? ⟨g, 0, none⟩ = some v := h.head.here rfl
  have hc2 : (w.alloc (.cells #[.int .i64 id] 3)).cell? ⟨g, 0, none⟩ = some v := HH.out.head.here rfl
  have hgw : g < w.heap.size := h.head.inside
  clear h
  go_enter Tryz.func100, Tryz.ntmps100
  go_wp2_with fail
  refine (fleF_index w.heap.size (Tide.podIs id) l v _ (HH.out.row.list Tide.Pod.enc_length) (by have := HH.out.small; omega) (fun m W hW => fleIs id _ m W ((hW.cell (p := ⟨w.heap.size, 0, none⟩) HX.out.inside).trans (HX.out.here (i := 0) rfl)))).mono ?_
  rintro e w2 ⟨rfl, hb2⟩
  have HB2 := Lib.hid (HB.out.trans (hb2.mono HB.out.size))
  clear hb2 hc hc2
  go_wp2_with fail
  go_ret
  exact ⟨rfl, HB2.out⟩
def FleAllPost (w : World) (l : List Tide.Pod) (e : Ending) (w' : World) : Prop := ∃ v', e = .returned v' ∧ Tide.OwnRow (fun b => w.heap.size ≤ b) w' 40 3 v' l.length (l.flatMap Tide.Pod.enc) ∧ Below w.heap.size w w'
set_option maxRecDepth 100000 in
set_option maxHeartbeats 1600000 in
theorem fleAll (S : Nat → Prop) (g : Nat) (v : Value) (l : List Tide.Pod) (last most : Int) (w : World) (h : FAt 120 S w g v l last most) :
    Calls Tryz.prog 23 #[.pointer (some ⟨g, 0, none⟩)] w (FleAllPost w l) := by
  obtain ⟨A, cap, rfl, _, _, _⟩ := h.row.slice
  have hc : w.cell? ⟨g, 0, none⟩ = some (.slice A l.length cap) := h.head.here rfl
  have HH := Lib.hid h
  clear h
  go_enter Tryz.func23, Tryz.ntmps23
  go_wp2_with fail
  refine (fle_clone S _ _ _ _ HH.out.row (by have := HH.out.small; omega) fle_one).mono ?_
  rintro e w2 ⟨v', rfl, h2, hb2⟩
  have HF := Lib.hid (show FleAllPost w l (.returned v') w2 from ⟨v', rfl, h2, hb2⟩)
  clear h2 hb2 hc
  go_wp2_with fail
  go_ret
  exact HF.out
open Go.RowKit
theorem idx_some (i : Nat) : Tide.idxOf (some i) = (i : Int) := rfl
theorem idx_none : Tide.idxOf none = -1 := rfl
set_option maxRecDepth 100000 in
set_option maxHeartbeats 6400000 in
theorem fleFewer (S : Nat → Prop) (g : Nat) (v : Value) (l : List Tide.Pod) (last most : Int) (w : World) (h : FAt 120 S w g v l last most) (hst : ∀ p ∈ l, 1 ≤ p.state ∧ p.state ≤ 4) (hlv : 0 < Tide.liveN l) :
    Calls Tryz.prog 121 #[.pointer (some ⟨g, 0, none⟩)] w (FlePost 120 S w g (Tide.fewerL l) last most) := by
  have hs := h.small
  have HH := Lib.hid h
  have HV := Lib.hid (Tide.victim hst hlv)
  clear h hst hlv
  go_enter Tryz.func121, Tryz.ntmps121
  go_wp2_with fail
  have HX := Lib.hid (Tide.At.made w 3 #[.int .i64 1, .int .i64 2])
  have HB := Lib.hid ((Below.refl w.heap.size w).alloc (Nat.le_refl _) (.cells #[.int .i64 1, .int .i64 2] 3))
  go_loopw [8] (fun i wr => ∃ k : Nat, k ≤ 2 ∧ i = .int .i64 k ∧ Hid ((1 ≤ k → Tide.best 1 Tide.gtId l = none) ∧ (2 ≤ k → Tide.best 2 Tide.gtId l = none)) ∧ Hid (Tide.At wr w.heap.size 3 #[.int .i64 1, .int .i64 2]) ∧ Hid (Below w.heap.size w wr)) (fun i _ => 2 - (intOf i).toNat)
  case atStart => exact ⟨0, by omega, rfl, Lib.hid ⟨fun h => by omega, fun h => by omega⟩, HX, HB⟩
  case round =>
    clear HX HB
    obtain ⟨k, hk, rfl, HK, HX, HB⟩ := hrel
    have HF := Lib.hid (HH.out.below HB.out)
    rcases (show k = 0 ∨ k = 1 ∨ k = 2 by omega) with rfl | rfl | rfl
    · have x0 := HX.out.here (i := 0) rfl
      go_wp2_with fail
      refine (fleBest_gt S g v l last most 1 _ HF.out).mono ?_
      rintro e w1 ⟨rfl, hb1⟩
      have HB1 := Lib.hid (HB.out.trans (hb1.mono HB.out.size))
      have HX1 := Lib.hid (HX.out.below hb1 HX.out.inside)
      clear hb1 x0
      cases hq : Tide.best 1 Tide.gtId l with
      | some i =>
        rw [idx_some]
        obtain ⟨p, hp, _⟩ := Tide.best_at hq
        have HE := Lib.hid (show Tide.fewerL l = l.eraseIdx i by unfold Tide.fewerL; rw [hq])
        have i0 : (0 : Int) ≤ (i : Int) := by omega
        clear hq
        go_wp2_with fail
        refine (fleGone S g v l last most i _ (HH.out.below HB1.out) (Tide.get_lt hp)).mono ?_
        rintro e w2 ⟨⟨x, rfl⟩, ⟨v2, h2⟩, c2⟩
        have HR := Lib.hid (show FlePost 120 S w g (Tide.fewerL l) last most (.returned (.tuple #[])) w2 from ⟨⟨_, rfl⟩, ⟨_, by rw [HE.out]; exact h2⟩, (Tide.Chg.of_below HB1.out (Nat.le_refl _)).trans c2⟩)
        clear h2 c2 hp
        go_wp2_with fail
        go_end0
        exact HR.out
      | none =>
        rw [idx_none]
        have HQ := Lib.hid hq
        clear hq
        go_wp2_with fail
        go_roundw
        case rel => exact ⟨1, by omega, by go_num, Lib.hid ⟨fun _ => HQ.out, fun h => by omega⟩, HX1, HB1⟩
        case measure => simp [intOf]
    · have x1 := HX.out.here (i := 1) rfl
      go_wp2_with fail
      refine (fleBest_gt S g v l last most 2 _ HF.out).mono ?_
      rintro e w1 ⟨rfl, hb1⟩
      have HB1 := Lib.hid (HB.out.trans (hb1.mono HB.out.size))
      have HX1 := Lib.hid (HX.out.below hb1 HX.out.inside)
      clear hb1 x1
      cases hq : Tide.best 2 Tide.gtId l with
      | some i =>
        rw [idx_some]
        obtain ⟨p, hp, _⟩ := Tide.best_at hq
        have HE := Lib.hid (show Tide.fewerL l = l.eraseIdx i by unfold Tide.fewerL; rw [HK.out.1 (by decide), hq])
        have i0 : (0 : Int) ≤ (i : Int) := by omega
        clear hq
        go_wp2_with fail
        refine (fleGone S g v l last most i _ (HH.out.below HB1.out) (Tide.get_lt hp)).mono ?_
        rintro e w2 ⟨⟨x, rfl⟩, ⟨v2, h2⟩, c2⟩
        have HR := Lib.hid (show FlePost 120 S w g (Tide.fewerL l) last most (.returned (.tuple #[])) w2 from ⟨⟨_, rfl⟩, ⟨_, by rw [HE.out]; exact h2⟩, (Tide.Chg.of_below HB1.out (Nat.le_refl _)).trans c2⟩)
        clear h2 c2 hp
        go_wp2_with fail
        go_end0
        exact HR.out
      | none =>
        rw [idx_none]
        have HQ := Lib.hid hq
        clear hq
        go_wp2_with fail
        go_roundw
        case rel => exact ⟨2, by omega, by go_num, Lib.hid ⟨fun _ => HK.out.1 (by decide), fun _ => HQ.out⟩, HX1, HB1⟩
        case measure => simp [intOf]
    · obtain ⟨i, hi⟩ := HV.out (HK.out.1 (by decide)) (HK.out.2 (by decide))
      have HI := Lib.hid hi
      clear hi
      go_wp2_with fail
      refine (fleBest_both S g v l last most 3 _ HF.out).mono ?_
      rintro e w1 ⟨rfl, hb1⟩
      have HB1 := Lib.hid (HB.out.trans (hb1.mono HB.out.size))
      clear hb1
      rw [HI.out, idx_some]
      obtain ⟨p, hp, hst⟩ := Tide.best_at HI.out
      obtain ⟨b, cap, rfl, hS, _, _, hbl, c0, c1, c2, fz⟩ := (HH.out.below HB1.out).pod hp
      have hc : w1.cell? ⟨g, 0, none⟩ = some (.slice (some ⟨b, 0, none⟩) l.length cap) := (HH.out.below HB1.out).head.here rfl
      have hla : Tide.loadAt l i = p.load := by unfold Tide.loadAt; rw [hp]; rfl
      have hil := Tide.get_lt hp
      have i0 : (0 : Int) ≤ (i : Int) := by omega
      have i1 : (i : Int) < (l.length : Int) := by omega
      have f1 := fz (i * 3 + 1)
      have HP := Lib.hid hp
      have HK1 := Lib.hid (HK.out.1 (by decide)); have HK2 := Lib.hid (HK.out.2 (by decide))
      clear hp hst c0 fz HK
      by_cases hz : p.load = 0
      · have HE := Lib.hid (show Tide.fewerL l = l.eraseIdx i by unfold Tide.fewerL; rw [HK1.out, HK2.out, HI.out]; simp only [hla, hz]; rfl)
        rw [hz] at c2
        clear hla hz
        go_wp2_with fail
        refine (fleGone S g _ l last most i _ (HH.out.below HB1.out) hil).mono ?_
        rintro e w2 ⟨⟨x, rfl⟩, ⟨v2, h2⟩, ch2⟩
        have HR := Lib.hid (show FlePost 120 S w g (Tide.fewerL l) last most (.returned (.tuple #[])) w2 from ⟨⟨_, rfl⟩, ⟨_, by rw [HE.out]; exact h2⟩, (Tide.Chg.of_below HB1.out (Nat.le_refl _)).trans ch2⟩)
        clear h2 ch2
        go_wp2_with fail
        go_end0
        exact HR.out
      · have HE := Lib.hid (show Tide.fewerL l = l.set i { p with state := 4 } by unfold Tide.fewerL; rw [HK1.out, HK2.out, HI.out]; simp only [hla, hz]; unfold Tide.drainAt; rw [HP.out]; rfl)
        have hz2 : (p.load == 0) = false := by simp only [beq_eq_false_iff_ne]; exact hz
        have p1 := (HH.out.below HB1.out).put (by decide) (k := i) (j := 1) (r' := { p with state := 4 }) (u := .int .i64 4) HP.out (by decide) rfl
        have HR := Lib.hid (show FlePost 120 S w g (Tide.fewerL l) last most (.returned (.tuple #[])) _ from ⟨⟨_, rfl⟩, ⟨_, by rw [HE.out]; exact p1.1⟩, (Tide.Chg.of_below HB1.out (Nat.le_refl _)).trans p1.2⟩)
        clear hla hz p1
        go_wp2_with fail
        go_end0
        exact HR.out
end Go.Proofs.YtidonhndeohdlaaGreatDoor
