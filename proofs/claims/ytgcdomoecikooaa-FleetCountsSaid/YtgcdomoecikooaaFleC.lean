/- The contracts of package fleet: Count, best. -/
import Derived.Test.YtgcdomoecikooaaRows
import Derived.WalkKit
import Derived.WalkSpells
import Derived.WalkLawsBesides
import Derived.Lib.Hide
import Derived.Handy
import Derived.RegionTactic
import Derived.BigRegion
import Derived.Deep.QuietTactic
import Derived.BigQuiet
import Derived.Deep.RegionLaw
import Derived.Deep.RegionHeld3
import Derived.Deep.AppendLies
import Derived.Deep.DeepCutAuto
import Derived.Deep.CutBlock
import Derived.Deep.LoopGhost
import Derived.Test.YtgcdomoecikooaaFleM
namespace Go.Proofs.Ytgcdomoecikooaa
open Go.RowKit
set_option linter.unusedVariables false

theorem fle_info : (Try.prog.info? 64).map (fun i => (i.zero, i.size, i.bytes)) = some (some (.agg #[.int .i64 0, .int .i64 0, .int .i64 0]), 3, 24) := by kernel_rfl
/-- a fleet (T: its type): its own block g, its pods v -/
structure FAt (T : TypeId) (S : Nat → Prop) (w : World) (g : Nat) (v : Value) (l : List Tide.Pod) (last most : Int) : Prop where
  head : Tide.At w g T #[v, .int .i64 last, .int .i64 most]
  row : Tide.OwnRow S w 64 3 v l.length (l.flatMap Tide.Pod.enc)
  own : S g
  small : l.length ≤ 10000000
  lim : ∀ b, S b → b < w.heap.size
section
variable {T : TypeId} {S S' C : Nat → Prop} {w w' w0 : World} {g : Nat} {v : Value} {l : List Tide.Pod} {last most : Int}
theorem FAt.chg (h : FAt T S w g v l last most) (hc : Tide.Chg C w w') (hs : ∀ b, S b → ¬ C b) : FAt T S w' g v l last most :=
  ⟨h.head.chg hc (hs g h.own), h.row.chg hc hs, h.own, h.small, fun b hb => Nat.lt_of_lt_of_le (h.lim b hb) hc.size⟩
theorem FAt.below (h : FAt T S w g v l last most) (hb : Below w.heap.size w w') : FAt T S w' g v l last most :=
  h.chg (C := fun _ => False) (Tide.Chg.of_below hb (Nat.le_refl _)) (fun _ _ h => h)
theorem FAt.mono (h : FAt T S w g v l last most) (hs : ∀ b, b < w.heap.size → S b → S' b) (hl : ∀ b, S' b → b < w.heap.size) : FAt T S' w g v l last most :=
  ⟨h.head, h.row.mono hs, hs g h.head.inside h.own, h.small, hl⟩
theorem FAt.up (h : FAt T S w g v l last most) : FAt T (Tide.Plus S w0 w) w g v l last most :=
  h.mono (fun _ _ hb => .inl hb) (fun b hb => by rcases hb with hb | hb; exact h.lim b hb; exact hb.2)
theorem FAt.alloc (h : FAt T S w g v l last most) (o : Obj) : FAt T S (w.alloc o) g v l last most := h.chg (C := fun _ => False) ((Tide.Chg.refl _ w).alloc o) (fun _ _ h => h)
theorem FAt.drew (h : FAt T S w g v l last most) : FAt T S w.drew g v l last most := ⟨h.head.drew, h.row.drew, h.own, h.small, h.lim⟩
/-- one pod, cell by cell -/
theorem FAt.pod (h : FAt T S w g v l last most) {k : Nat} {p : Tide.Pod} (hk : l[k]? = some p) :
    ∃ b cap, v = .slice (some ⟨b, 0, none⟩) l.length cap ∧ S b ∧ l.length ≤ cap ∧ cap ≤ maxLen ∧ b < w.heap.size ∧ w.cell? ⟨b, k * 3, none⟩ = some (.int .i64 p.id) ∧ w.cell? ⟨b, k * 3 + 1, none⟩ = some (.int .i64 p.state) ∧ w.cell? ⟨b, k * 3 + 2, none⟩ = some (.int .i64 p.load) ∧ (∀ i, w.frozen? ⟨b, i, none⟩ = false) := by
  obtain ⟨b, cap, e, hS, h1, h2, h3⟩ := h.row.form (by have := Tide.get_lt hk; omega)
  exact ⟨b, cap, e, hS, h1, h2, h3.inside, h3.cell (Tide.flat_get (j := 0) Tide.Pod.enc_length hk rfl), h3.cell (Tide.flat_get (j := 1) Tide.Pod.enc_length hk rfl), h3.cell (Tide.flat_get (j := 2) Tide.Pod.enc_length hk rfl), h3.soft⟩
theorem FAt.apart (h : FAt T S w g v l last most) (hT : T ≠ 64) : ∀ b, v.ownBlock = some b → b ≠ g := h.row.apartAt h.head (Ne.symm hT)
end
theorem fle_drewN {B : Nat} {w w' : World} (h : Below B w w') (n : Nat) : Below B w (w'.drewN n) := ⟨h.os, h.tape, h.output, h.size, h.block⟩
def FleRead (w : World) (v : Value) (e : Ending) (w' : World) : Prop := e = .returned v ∧ Below w.heap.size w w'
set_option maxRecDepth 100000 in
set_option maxHeartbeats 1600000 in
theorem fleCount (S : Nat → Prop) (g : Nat) (v : Value) (l : List Tide.Pod) (last most : Int) (w : World) (h : FAt 88 S w g v l last most) :
    Calls Try.prog 31 #[.pointer (some ⟨g, 0, none⟩)] w (FleRead w (.int .i64 (Tide.liveN l))) := by
  obtain ⟨A, cap, rfl, _, _, _⟩ := h.row.slice
  have hc : w.cell? ⟨g, 0, none⟩ = some (.slice A l.length cap) := h.head.here rfl
  have hs := h.small
  have HH := Lib.hid h
  clear h
  go_enter Try.func31, Try.ntmps31
  go_wp2_with fail
  go_loopw [3, 11] (fun n i wr => ∃ k : Nat, k ≤ l.length ∧ i = .int .i64 k ∧ n = .int .i64 (((l.take k).countP Tide.lives : Nat) : Int) ∧ Below w.heap.size w wr) (fun _ i _ => l.length - (intOf i).toNat)
  case atStart => exact ⟨0, by omega, rfl, by simp, Below.refl _ _⟩
  case round =>
    clear hc
    obtain ⟨k, hk, rfl, rfl, hb⟩ := hrel
    by_cases hlt : k < l.length
    · obtain ⟨p, hp⟩ := Tide.get_some l hlt
      obtain ⟨b, cap', e, hS, _, _, hbl, c0, c1, c2, _⟩ := (HH.out.below hb).pod hp
      cases e
      have i0 : (0 : Int) ≤ (k : Int) := by omega
      have i1 : (k : Int) < (l.length : Int) := by omega
      have HC := Lib.hid (Tide.count_snoc (p := Tide.lives) hp)
      have hle : (l.take k).countP Tide.lives ≤ 10000000 := Nat.le_trans List.countP_le_length (by rw [List.length_take]; omega)
      generalize (l.take k).countP Tide.lives = N at HC hle ⊢
      have hle' : (N : Int) ≤ 10000000 := by omega
      have HB := Lib.hid (hb.alloc hb.size (.cells #[.int .i64 p.id, .int .i64 p.state, .int .i64 p.load] 64))
      clear hp hb hle
      cases hf : (p.state == 4)
      · have hf2 : (p.state != 4) = true := by simp only [bne, hf]; rfl
        have HT := Lib.hid (show Tide.lives p = true by unfold Tide.lives; rw [hf]; rfl)
        go_wp2_with fail
        go_roundw
        case rel => exact ⟨k + 1, by omega, by go_num, by rw [HC.out, HT.out]; go_num, HB.out⟩
        case measure => simp [intOf]; omega
      · have hf2 : (p.state != 4) = false := by simp only [bne, hf]; rfl
        have HT := Lib.hid (show Tide.lives p = false by unfold Tide.lives; rw [hf]; rfl)
        go_wp2_with fail
        go_roundw
        case rel => exact ⟨k + 1, by omega, by go_num, by rw [HC.out, HT.out]; go_num, HB.out⟩
        case measure => simp [intOf]; omega
    · have hke : k = l.length := by omega
      subst hke
      have HB := Lib.hid hb
      clear hb
      rw [List.take_length]
      go_wp2_with fail
      go_ret
      exact ⟨rfl, HB.out⟩
def podV (p : Tide.Pod) : Value := .agg #[.int .i64 p.id, .int .i64 p.state, .int .i64 p.load]
theorem fle_two (w : World) (a b : Obj) : Below w.heap.size w ((w.alloc a).alloc b) := ((Below.refl _ w).alloc (Nat.le_refl _) a).alloc (by simp) b
set_option maxHeartbeats 800000 in
theorem fleLess_gt (p q : Tide.Pod) (w : World) : Calls Try.prog 70 #[.agg #[.int .i64 p.id, .int .i64 p.state, .int .i64 p.load], .agg #[.int .i64 q.id, .int .i64 q.state, .int .i64 q.load]] w fun e w' => e = .returned (.bool (Tide.gtId p q)) ∧ Below w.heap.size w w' := by
  go_enter Try.func70, Try.ntmps70
  go_wp2_with fail
  go_ret
  exact ⟨rfl, fle_two _ _ _⟩
set_option maxHeartbeats 800000 in
theorem fleLess_lt (p q : Tide.Pod) (w : World) : Calls Try.prog 64 #[.agg #[.int .i64 p.id, .int .i64 p.state, .int .i64 p.load], .agg #[.int .i64 q.id, .int .i64 q.state, .int .i64 q.load]] w fun e w' => e = .returned (.bool (Tide.ltLoad p q)) ∧ Below w.heap.size w w' := by
  go_enter Try.func64, Try.ntmps64
  go_wp2_with fail
  go_ret
  exact ⟨rfl, fle_two _ _ _⟩
set_option maxHeartbeats 800000 in
theorem fleLess_both (p q : Tide.Pod) (w : World) : Calls Try.prog 71 #[.agg #[.int .i64 p.id, .int .i64 p.state, .int .i64 p.load], .agg #[.int .i64 q.id, .int .i64 q.state, .int .i64 q.load]] w fun e w' => e = .returned (.bool (Tide.ltBoth p q)) ∧ Below w.heap.size w w' := by
  by_cases h1 : p.load < q.load
  · have HT := Lib.hid (show Tide.ltBoth p q = true by unfold Tide.ltBoth; simp [h1])
    go_enter Try.func71, Try.ntmps71
    go_wp2_with fail
    go_ret
    exact ⟨by rw [HT.out] <;> rfl, fle_two _ _ _⟩
  · cases h2 : (p.load == q.load)
    · have HT := Lib.hid (show Tide.ltBoth p q = false by unfold Tide.ltBoth; simp [h1, h2])
      have h1' : decide (p.load < q.load) = false := decide_eq_false h1
      clear h1
      go_enter Try.func71, Try.ntmps71
      go_wp2_with fail
      go_ret
      exact ⟨by rw [HT.out] <;> rfl, fle_two _ _ _⟩
    · have HT := Lib.hid (show Tide.ltBoth p q = decide (q.id < p.id) by unfold Tide.ltBoth; simp [h1, h2])
      have h1' : decide (p.load < q.load) = false := decide_eq_false h1
      clear h1
      go_enter Try.func71, Try.ntmps71
      go_wp2_with fail
      go_ret
      exact ⟨by rw [HT.out] <;> rfl, fle_two _ _ _⟩
theorem fle_keep7 {W w1 : World} {x g b j n cap : Nat} {p q : Tide.Pod} (hb : Below W.heap.size W w1) (h1 : x < W.heap.size) (h2 : g < W.heap.size) (h3 : b < W.heap.size)
    (y : W.cell? ⟨x, 0, none⟩ = some (.int .i64 p.id) ∧ W.cell? ⟨x, 1, none⟩ = some (.int .i64 p.state) ∧ W.cell? ⟨x, 2, none⟩ = some (.int .i64 p.load) ∧ W.cell? ⟨g, 0, none⟩ = some (.slice (some ⟨b, 0, none⟩) n cap) ∧ W.cell? ⟨b, j * 3, none⟩ = some (.int .i64 q.id) ∧ W.cell? ⟨b, j * 3 + 1, none⟩ = some (.int .i64 q.state) ∧ W.cell? ⟨b, j * 3 + 2, none⟩ = some (.int .i64 q.load)) :
    w1.cell? ⟨x, 0, none⟩ = some (.int .i64 p.id) ∧ w1.cell? ⟨x, 1, none⟩ = some (.int .i64 p.state) ∧ w1.cell? ⟨x, 2, none⟩ = some (.int .i64 p.load) ∧ w1.cell? ⟨g, 0, none⟩ = some (.slice (some ⟨b, 0, none⟩) n cap) ∧ w1.cell? ⟨b, j * 3, none⟩ = some (.int .i64 q.id) ∧ w1.cell? ⟨b, j * 3 + 1, none⟩ = some (.int .i64 q.state) ∧ w1.cell? ⟨b, j * 3 + 2, none⟩ = some (.int .i64 q.load) := by
  obtain ⟨y0, y1, y2, y3, y4, y5, y6⟩ := y
  exact ⟨(hb.cell h1).trans y0, (hb.cell h1).trans y1, (hb.cell h1).trans y2, (hb.cell h2).trans y3, (hb.cell h3).trans y4, (hb.cell h3).trans y5, (hb.cell h3).trans y6⟩
/- best with the function (*fleet.Fleet).fewer$1 -/
set_option maxRecDepth 100000 in
set_option maxHeartbeats 6400000 in
theorem fleBest_gt (S : Nat → Prop) (g : Nat) (v : Value) (l : List Tide.Pod) (last most st : Int) (w : World) (h : FAt 88 S w g v l last most) :
    Calls Try.prog 63 #[.pointer (some ⟨g, 0, none⟩), .int .i64 st, .func (.func 70) #[] #[]] w (FleRead w (.int .i64 (Tide.idxOf (Tide.best st Tide.gtId l)))) := by
  obtain ⟨A, cap, rfl, _, _, _⟩ := h.row.slice
  have hc : w.cell? ⟨g, 0, none⟩ = some (.slice A l.length cap) := h.head.here rfl
  have hs := h.small
  have HH := Lib.hid h
  clear h
  go_enter Try.func63, Try.ntmps63
  go_wp2_with fail
  go_loopw [7, 15] (fun n i wr => ∃ k : Nat, k ≤ l.length ∧ i = .int .i64 k ∧ n = .int .i64 (Tide.idxOf (Tide.pick (fun p => p.state == st) Tide.gtId l k)) ∧ Below w.heap.size w wr) (fun _ i _ => l.length - (intOf i).toNat)
  case atStart => exact ⟨0, by omega, rfl, rfl, Below.refl _ _⟩
  case round =>
    clear hc
    obtain ⟨k, hk, rfl, rfl, hb⟩ := hrel
    by_cases hlt : k < l.length
    · obtain ⟨p, hp⟩ := Tide.get_some l hlt
      obtain ⟨b, cap', e, hS, _, _, hbl, c0, c1, c2, _⟩ := (HH.out.below hb).pod hp
      cases e
      have i0 : (0 : Int) ≤ (k : Int) := by omega
      have i1 : (k : Int) < (l.length : Int) := by omega
      have HP := Lib.hid hp
      have HB := Lib.hid (hb.alloc hb.size (.cells #[.int .i64 p.id, .int .i64 p.state, .int .i64 p.load] 64))
      have HX := Lib.hid (Tide.At.made wr 64 #[.int .i64 p.id, .int .i64 p.state, .int .i64 p.load])
      have HU := Lib.hid (Tide.pick_succ (w := fun p => p.state == st) (f := Tide.gtId) hp)
      clear hp hb
      cases hf : (p.state == st)
      · have HN := Lib.hid (show Tide.pick (fun p => p.state == st) Tide.gtId l (k + 1) = Tide.pick (fun p => p.state == st) Tide.gtId l k by rw [HU.out]; simp only [hf]; rfl)
        go_wp2_with fail
        go_quiet (fail)
        go_wp2_with fail
        go_roundw
        case rel => exact ⟨k + 1, by omega, by go_num, by rw [HN.out], fle_drewN HB.out _⟩
        case measure => simp [intOf]; omega
      · cases hj : Tide.pick (fun p => p.state == st) Tide.gtId l k with
        | none =>
          have HN := Lib.hid (show Tide.pick (fun p => p.state == st) Tide.gtId l (k + 1) = some k by rw [HU.out, hj]; simp only [hf, Tide.beats]; rfl)
          simp only [Tide.idxOf]
          clear hj
          go_wp2_with fail
          go_quiet (fail)
          go_wp2_with fail
          go_roundw
          case rel => exact ⟨k + 1, by omega, by go_num, by rw [HN.out] <;> rfl, fle_drewN HB.out _⟩
          case measure => simp [intOf]; omega
        | some j =>
          obtain ⟨hjk, q, hq, _⟩ := Tide.pick_lt hj
          obtain ⟨b', cap', e, _, _, _, _, d0, d1, d2, _⟩ := (HH.out.below HB.out).pod hq
          cases e
          have hc : (wr.alloc (.cells #[.int .i64 p.id, .int .i64 p.state, .int .i64 p.load] 64)).cell? ⟨g, 0, none⟩ = some (.slice (some ⟨b, 0, none⟩) l.length cap) := (HH.out.below HB.out).head.here rfl
          simp only [Tide.idxOf]
          have j0 : (0 : Int) ≤ (j : Int) := by omega
          have j1 : (j : Int) < (l.length : Int) := by omega
          have HL := Lib.hid (show Tide.pick (fun p => p.state == st) Tide.gtId l (k + 1) = if Tide.gtId p q then some k else some j by rw [HU.out, hj]; simp only [hf, Tide.beats, hq, Bool.true_and])
          have x0 := HX.out.here (i := 0) rfl; have x1 := HX.out.here (i := 1) rfl; have x2 := HX.out.here (i := 2) rfl
          clear hj hq
          go_upto_region 5 with fail
          clear c0 c1 c2
          generalize wr.alloc (.cells #[.int .i64 p.id, .int .i64 p.state, .int .i64 p.load] 64) = W at HB HX hc d0 d1 d2 x0 x1 x2 ⊢
          go_wp2_with fail
          have y : W.drew.cell? ⟨wr.heap.size, 0, none⟩ = some (.int .i64 p.id) ∧ W.drew.cell? ⟨wr.heap.size, 1, none⟩ = some (.int .i64 p.state) ∧ W.drew.cell? ⟨wr.heap.size, 2, none⟩ = some (.int .i64 p.load) ∧ W.drew.cell? ⟨g, 0, none⟩ = some (.slice (some ⟨b, 0, none⟩) l.length cap) ∧ W.drew.cell? ⟨b, j * 3, none⟩ = some (.int .i64 q.id) ∧ W.drew.cell? ⟨b, j * 3 + 1, none⟩ = some (.int .i64 q.state) ∧ W.drew.cell? ⟨b, j * 3 + 2, none⟩ = some (.int .i64 q.load) := ⟨x0, x1, x2, hc, d0, d1, d2⟩
          have hlt1 : wr.heap.size < W.drew.heap.size := HX.out.inside
          have hlt2 : g < W.drew.heap.size := World.block_lt_of_cell? W _ hc
          have hlt3 : b < W.drew.heap.size := World.block_lt_of_cell? W _ d0
          obtain ⟨ls, hls⟩ : ∃ ls, Hid (Tide.gtId p q = ls) := ⟨_, Lib.hid rfl⟩
          rw [hls.out] at HL
          go_region_held3 (fun w' => w'.cell? ⟨wr.heap.size, 0, none⟩ = some (.int .i64 p.id) ∧ w'.cell? ⟨wr.heap.size, 1, none⟩ = some (.int .i64 p.state) ∧ w'.cell? ⟨wr.heap.size, 2, none⟩ = some (.int .i64 p.load) ∧ w'.cell? ⟨g, 0, none⟩ = some (.slice (some ⟨b, 0, none⟩) l.length cap) ∧ w'.cell? ⟨b, j * 3, none⟩ = some (.int .i64 q.id) ∧ w'.cell? ⟨b, j * 3 + 1, none⟩ = some (.int .i64 q.state) ∧ w'.cell? ⟨b, j * 3 + 2, none⟩ = some (.int .i64 q.load)) (first | exact y1 | exact y | go_keep) ((go_at_call 70; refine (fleLess_gt p q _).mono ?_; rintro e w1 ⟨rfl, hb1⟩; rw [hls.out]; have y1 := fle_keep7 hb1 hlt1 hlt2 hlt3 y))
          all_goals
            have HB2 := Lib.hid (HB.out.drew.trans (hb1.mono HB.out.drew.size))
            clear x0 x1 x2 hc d0 d1 d2 y hb1 y1 hlt1 hlt2 hlt3 hls
            simp only [show decide ((j : Int) < 0) = false from decide_eq_false (by omega), Bool.false_or]
            cases ls
            · have HN := Lib.hid HL.out
              go_wp2_with fail
              go_roundw
              case rel => exact ⟨k + 1, by omega, by go_num, by rw [HN.out] <;> rfl, HB2.out⟩
              case measure => simp [intOf]; omega
            · have HN := Lib.hid HL.out
              go_wp2_with fail
              go_roundw
              case rel => exact ⟨k + 1, by omega, by go_num, by rw [HN.out] <;> rfl, HB2.out⟩
              case measure => simp [intOf]; omega
    · have hke : k = l.length := by omega
      subst hke
      have HB := Lib.hid hb
      clear hb
      go_wp2_with fail
      go_ret
      exact ⟨rfl, HB.out⟩
/- best with the function (*fleet.Fleet).fewer$2 -/
set_option maxRecDepth 100000 in
set_option maxHeartbeats 6400000 in
theorem fleBest_both (S : Nat → Prop) (g : Nat) (v : Value) (l : List Tide.Pod) (last most st : Int) (w : World) (h : FAt 88 S w g v l last most) :
    Calls Try.prog 63 #[.pointer (some ⟨g, 0, none⟩), .int .i64 st, .func (.func 71) #[] #[]] w (FleRead w (.int .i64 (Tide.idxOf (Tide.best st Tide.ltBoth l)))) := by
  obtain ⟨A, cap, rfl, _, _, _⟩ := h.row.slice
  have hc : w.cell? ⟨g, 0, none⟩ = some (.slice A l.length cap) := h.head.here rfl
  have hs := h.small
  have HH := Lib.hid h
  clear h
  go_enter Try.func63, Try.ntmps63
  go_wp2_with fail
  go_loopw [7, 15] (fun n i wr => ∃ k : Nat, k ≤ l.length ∧ i = .int .i64 k ∧ n = .int .i64 (Tide.idxOf (Tide.pick (fun p => p.state == st) Tide.ltBoth l k)) ∧ Below w.heap.size w wr) (fun _ i _ => l.length - (intOf i).toNat)
  case atStart => exact ⟨0, by omega, rfl, rfl, Below.refl _ _⟩
  case round =>
    clear hc
    obtain ⟨k, hk, rfl, rfl, hb⟩ := hrel
    by_cases hlt : k < l.length
    · obtain ⟨p, hp⟩ := Tide.get_some l hlt
      obtain ⟨b, cap', e, hS, _, _, hbl, c0, c1, c2, _⟩ := (HH.out.below hb).pod hp
      cases e
      have i0 : (0 : Int) ≤ (k : Int) := by omega
      have i1 : (k : Int) < (l.length : Int) := by omega
      have HP := Lib.hid hp
      have HB := Lib.hid (hb.alloc hb.size (.cells #[.int .i64 p.id, .int .i64 p.state, .int .i64 p.load] 64))
      have HX := Lib.hid (Tide.At.made wr 64 #[.int .i64 p.id, .int .i64 p.state, .int .i64 p.load])
      have HU := Lib.hid (Tide.pick_succ (w := fun p => p.state == st) (f := Tide.ltBoth) hp)
      clear hp hb
      cases hf : (p.state == st)
      · have HN := Lib.hid (show Tide.pick (fun p => p.state == st) Tide.ltBoth l (k + 1) = Tide.pick (fun p => p.state == st) Tide.ltBoth l k by rw [HU.out]; simp only [hf]; rfl)
        go_wp2_with fail
        go_quiet (fail)
        go_wp2_with fail
        go_roundw
        case rel => exact ⟨k + 1, by omega, by go_num, by rw [HN.out], fle_drewN HB.out _⟩
        case measure => simp [intOf]; omega
      · cases hj : Tide.pick (fun p => p.state == st) Tide.ltBoth l k with
        | none =>
          have HN := Lib.hid (show Tide.pick (fun p => p.state == st) Tide.ltBoth l (k + 1) = some k by rw [HU.out, hj]; simp only [hf, Tide.beats]; rfl)
          simp only [Tide.idxOf]
          clear hj
          go_wp2_with fail
          go_quiet (fail)
          go_wp2_with fail
          go_roundw
          case rel => exact ⟨k + 1, by omega, by go_num, by rw [HN.out] <;> rfl, fle_drewN HB.out _⟩
          case measure => simp [intOf]; omega
        | some j =>
          obtain ⟨hjk, q, hq, _⟩ := Tide.pick_lt hj
          obtain ⟨b', cap', e, _, _, _, _, d0, d1, d2, _⟩ := (HH.out.below HB.out).pod hq
          cases e
          have hc : (wr.alloc (.cells #[.int .i64 p.id, .int .i64 p.state, .int .i64 p.load] 64)).cell? ⟨g, 0, none⟩ = some (.slice (some ⟨b, 0, none⟩) l.length cap) := (HH.out.below HB.out).head.here rfl
          simp only [Tide.idxOf]
          have j0 : (0 : Int) ≤ (j : Int) := by omega
          have j1 : (j : Int) < (l.length : Int) := by omega
          have HL := Lib.hid (show Tide.pick (fun p => p.state == st) Tide.ltBoth l (k + 1) = if Tide.ltBoth p q then some k else some j by rw [HU.out, hj]; simp only [hf, Tide.beats, hq, Bool.true_and])
          have x0 := HX.out.here (i := 0) rfl; have x1 := HX.out.here (i := 1) rfl; have x2 := HX.out.here (i := 2) rfl
          clear hj hq
          go_upto_region 5 with fail
          clear c0 c1 c2
          generalize wr.alloc (.cells #[.int .i64 p.id, .int .i64 p.state, .int .i64 p.load] 64) = W at HB HX hc d0 d1 d2 x0 x1 x2 ⊢
          go_wp2_with fail
          have y : W.drew.cell? ⟨wr.heap.size, 0, none⟩ = some (.int .i64 p.id) ∧ W.drew.cell? ⟨wr.heap.size, 1, none⟩ = some (.int .i64 p.state) ∧ W.drew.cell? ⟨wr.heap.size, 2, none⟩ = some (.int .i64 p.load) ∧ W.drew.cell? ⟨g, 0, none⟩ = some (.slice (some ⟨b, 0, none⟩) l.length cap) ∧ W.drew.cell? ⟨b, j * 3, none⟩ = some (.int .i64 q.id) ∧ W.drew.cell? ⟨b, j * 3 + 1, none⟩ = some (.int .i64 q.state) ∧ W.drew.cell? ⟨b, j * 3 + 2, none⟩ = some (.int .i64 q.load) := ⟨x0, x1, x2, hc, d0, d1, d2⟩
          have hlt1 : wr.heap.size < W.drew.heap.size := HX.out.inside
          have hlt2 : g < W.drew.heap.size := World.block_lt_of_cell? W _ hc
          have hlt3 : b < W.drew.heap.size := World.block_lt_of_cell? W _ d0
          obtain ⟨ls, hls⟩ : ∃ ls, Hid (Tide.ltBoth p q = ls) := ⟨_, Lib.hid rfl⟩
          rw [hls.out] at HL
          go_region_held3 (fun w' => w'.cell? ⟨wr.heap.size, 0, none⟩ = some (.int .i64 p.id) ∧ w'.cell? ⟨wr.heap.size, 1, none⟩ = some (.int .i64 p.state) ∧ w'.cell? ⟨wr.heap.size, 2, none⟩ = some (.int .i64 p.load) ∧ w'.cell? ⟨g, 0, none⟩ = some (.slice (some ⟨b, 0, none⟩) l.length cap) ∧ w'.cell? ⟨b, j * 3, none⟩ = some (.int .i64 q.id) ∧ w'.cell? ⟨b, j * 3 + 1, none⟩ = some (.int .i64 q.state) ∧ w'.cell? ⟨b, j * 3 + 2, none⟩ = some (.int .i64 q.load)) (first | exact y1 | exact y | go_keep) ((go_at_call 71; refine (fleLess_both p q _).mono ?_; rintro e w1 ⟨rfl, hb1⟩; rw [hls.out]; have y1 := fle_keep7 hb1 hlt1 hlt2 hlt3 y))
          all_goals
            have HB2 := Lib.hid (HB.out.drew.trans (hb1.mono HB.out.drew.size))
            clear x0 x1 x2 hc d0 d1 d2 y hb1 y1 hlt1 hlt2 hlt3 hls
            simp only [show decide ((j : Int) < 0) = false from decide_eq_false (by omega), Bool.false_or]
            cases ls
            · have HN := Lib.hid HL.out
              go_wp2_with fail
              go_roundw
              case rel => exact ⟨k + 1, by omega, by go_num, by rw [HN.out] <;> rfl, HB2.out⟩
              case measure => simp [intOf]; omega
            · have HN := Lib.hid HL.out
              go_wp2_with fail
              go_roundw
              case rel => exact ⟨k + 1, by omega, by go_num, by rw [HN.out] <;> rfl, HB2.out⟩
              case measure => simp [intOf]; omega
    · have hke : k = l.length := by omega
      subst hke
      have HB := Lib.hid hb
      clear hb
      go_wp2_with fail
      go_ret
      exact ⟨rfl, HB.out⟩
/- best with the function (*fleet.Fleet).Give$1 -/
set_option maxRecDepth 100000 in
set_option maxHeartbeats 6400000 in
theorem fleBest_lt (S : Nat → Prop) (g : Nat) (v : Value) (l : List Tide.Pod) (last most st : Int) (w : World) (h : FAt 88 S w g v l last most) :
    Calls Try.prog 63 #[.pointer (some ⟨g, 0, none⟩), .int .i64 st, .func (.func 64) #[] #[]] w (FleRead w (.int .i64 (Tide.idxOf (Tide.best st Tide.ltLoad l)))) := by
  obtain ⟨A, cap, rfl, _, _, _⟩ := h.row.slice
  have hc : w.cell? ⟨g, 0, none⟩ = some (.slice A l.length cap) := h.head.here rfl
  have hs := h.small
  have HH := Lib.hid h
  clear h
  go_enter Try.func63, Try.ntmps63
  go_wp2_with fail
  go_loopw [7, 15] (fun n i wr => ∃ k : Nat, k ≤ l.length ∧ i = .int .i64 k ∧ n = .int .i64 (Tide.idxOf (Tide.pick (fun p => p.state == st) Tide.ltLoad l k)) ∧ Below w.heap.size w wr) (fun _ i _ => l.length - (intOf i).toNat)
  case atStart => exact ⟨0, by omega, rfl, rfl, Below.refl _ _⟩
  case round =>
    clear hc
    obtain ⟨k, hk, rfl, rfl, hb⟩ := hrel
    by_cases hlt : k < l.length
    · obtain ⟨p, hp⟩ := Tide.get_some l hlt
      obtain ⟨b, cap', e, hS, _, _, hbl, c0, c1, c2, _⟩ := (HH.out.below hb).pod hp
      cases e
      have i0 : (0 : Int) ≤ (k : Int) := by omega
      have i1 : (k : Int) < (l.length : Int) := by omega
      have HP := Lib.hid hp
      have HB := Lib.hid (hb.alloc hb.size (.cells #[.int .i64 p.id, .int .i64 p.state, .int .i64 p.load] 64))
      have HX := Lib.hid (Tide.At.made wr 64 #[.int .i64 p.id, .int .i64 p.state, .int .i64 p.load])
      have HU := Lib.hid (Tide.pick_succ (w := fun p => p.state == st) (f := Tide.ltLoad) hp)
      clear hp hb
      cases hf : (p.state == st)
      · have HN := Lib.hid (show Tide.pick (fun p => p.state == st) Tide.ltLoad l (k + 1) = Tide.pick (fun p => p.state == st) Tide.ltLoad l k by rw [HU.out]; simp only [hf]; rfl)
        go_wp2_with fail
        go_quiet (fail)
        go_wp2_with fail
        go_roundw
        case rel => exact ⟨k + 1, by omega, by go_num, by rw [HN.out], fle_drewN HB.out _⟩
        case measure => simp [intOf]; omega
      · cases hj : Tide.pick (fun p => p.state == st) Tide.ltLoad l k with
        | none =>
          have HN := Lib.hid (show Tide.pick (fun p => p.state == st) Tide.ltLoad l (k + 1) = some k by rw [HU.out, hj]; simp only [hf, Tide.beats]; rfl)
          simp only [Tide.idxOf]
          clear hj
          go_wp2_with fail
          go_quiet (fail)
          go_wp2_with fail
          go_roundw
          case rel => exact ⟨k + 1, by omega, by go_num, by rw [HN.out] <;> rfl, fle_drewN HB.out _⟩
          case measure => simp [intOf]; omega
        | some j =>
          obtain ⟨hjk, q, hq, _⟩ := Tide.pick_lt hj
          obtain ⟨b', cap', e, _, _, _, _, d0, d1, d2, _⟩ := (HH.out.below HB.out).pod hq
          cases e
          have hc : (wr.alloc (.cells #[.int .i64 p.id, .int .i64 p.state, .int .i64 p.load] 64)).cell? ⟨g, 0, none⟩ = some (.slice (some ⟨b, 0, none⟩) l.length cap) := (HH.out.below HB.out).head.here rfl
          simp only [Tide.idxOf]
          have j0 : (0 : Int) ≤ (j : Int) := by omega
          have j1 : (j : Int) < (l.length : Int) := by omega
          have HL := Lib.hid (show Tide.pick (fun p => p.state == st) Tide.ltLoad l (k + 1) = if Tide.ltLoad p q then some k else some j by rw [HU.out, hj]; simp only [hf, Tide.beats, hq, Bool.true_and])
          have x0 := HX.out.here (i := 0) rfl; have x1 := HX.out.here (i := 1) rfl; have x2 := HX.out.here (i := 2) rfl
          clear hj hq
          go_upto_region 5 with fail
          clear c0 c1 c2
          generalize wr.alloc (.cells #[.int .i64 p.id, .int .i64 p.state, .int .i64 p.load] 64) = W at HB HX hc d0 d1 d2 x0 x1 x2 ⊢
          go_wp2_with fail
          have y : W.drew.cell? ⟨wr.heap.size, 0, none⟩ = some (.int .i64 p.id) ∧ W.drew.cell? ⟨wr.heap.size, 1, none⟩ = some (.int .i64 p.state) ∧ W.drew.cell? ⟨wr.heap.size, 2, none⟩ = some (.int .i64 p.load) ∧ W.drew.cell? ⟨g, 0, none⟩ = some (.slice (some ⟨b, 0, none⟩) l.length cap) ∧ W.drew.cell? ⟨b, j * 3, none⟩ = some (.int .i64 q.id) ∧ W.drew.cell? ⟨b, j * 3 + 1, none⟩ = some (.int .i64 q.state) ∧ W.drew.cell? ⟨b, j * 3 + 2, none⟩ = some (.int .i64 q.load) := ⟨x0, x1, x2, hc, d0, d1, d2⟩
          have hlt1 : wr.heap.size < W.drew.heap.size := HX.out.inside
          have hlt2 : g < W.drew.heap.size := World.block_lt_of_cell? W _ hc
          have hlt3 : b < W.drew.heap.size := World.block_lt_of_cell? W _ d0
          obtain ⟨ls, hls⟩ : ∃ ls, Hid (Tide.ltLoad p q = ls) := ⟨_, Lib.hid rfl⟩
          rw [hls.out] at HL
          go_region_held3 (fun w' => w'.cell? ⟨wr.heap.size, 0, none⟩ = some (.int .i64 p.id) ∧ w'.cell? ⟨wr.heap.size, 1, none⟩ = some (.int .i64 p.state) ∧ w'.cell? ⟨wr.heap.size, 2, none⟩ = some (.int .i64 p.load) ∧ w'.cell? ⟨g, 0, none⟩ = some (.slice (some ⟨b, 0, none⟩) l.length cap) ∧ w'.cell? ⟨b, j * 3, none⟩ = some (.int .i64 q.id) ∧ w'.cell? ⟨b, j * 3 + 1, none⟩ = some (.int .i64 q.state) ∧ w'.cell? ⟨b, j * 3 + 2, none⟩ = some (.int .i64 q.load)) (first | exact y1 | exact y | go_keep) ((go_at_call 64; refine (fleLess_lt p q _).mono ?_; rintro e w1 ⟨rfl, hb1⟩; rw [hls.out]; have y1 := fle_keep7 hb1 hlt1 hlt2 hlt3 y))
          all_goals
            have HB2 := Lib.hid (HB.out.drew.trans (hb1.mono HB.out.drew.size))
            clear x0 x1 x2 hc d0 d1 d2 y hb1 y1 hlt1 hlt2 hlt3 hls
            simp only [show decide ((j : Int) < 0) = false from decide_eq_false (by omega), Bool.false_or]
            cases ls
            · have HN := Lib.hid HL.out
              go_wp2_with fail
              go_roundw
              case rel => exact ⟨k + 1, by omega, by go_num, by rw [HN.out] <;> rfl, HB2.out⟩
              case measure => simp [intOf]; omega
            · have HN := Lib.hid HL.out
              go_wp2_with fail
              go_roundw
              case rel => exact ⟨k + 1, by omega, by go_num, by rw [HN.out] <;> rfl, HB2.out⟩
              case measure => simp [intOf]; omega
    · have hke : k = l.length := by omega
      subst hke
      have HB := Lib.hid hb
      clear hb
      go_wp2_with fail
      go_ret
      exact ⟨rfl, HB.out⟩
end Go.Proofs.Ytgcdomoecikooaa
