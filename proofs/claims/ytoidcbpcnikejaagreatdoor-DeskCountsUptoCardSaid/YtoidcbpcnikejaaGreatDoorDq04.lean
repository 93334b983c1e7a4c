/- Parts of this claim: FleC, FleD, FleE, HelD. -/
import Derived.Deep.RegionHeld3
import Derived.Deep.CutBlock
import Derived.Deep.LoopGhost
import Derived.Lib.SliceRun
import Derived.Laws.Rows
import Derived.Test.YtoidcbpcnikejaaGreatDoorDq02
set_option linter.unusedVariables false
set_option linter.unusedSimpArgs false
set_option maxRecDepth 100000
set_option maxHeartbeats 12800000
namespace Go.Proofs.YtoidcbpcnikejaaGreatDoor
open Go.RowKit
theorem fle_info : (Tryz.prog.info? 177).map (fun i => (i.zero, i.size, i.bytes)) = some (some (.agg #[.int .i64 0, .int .i64 0, .int .i64 0]), 3, 24) := by kernel_rfl
structure FAt (T : TypeId) (S : Nat → Prop) (w : World) (g : Nat) (v : Value) (l : List G.Pod) (last most : Int) : Prop where
 head : G.At w g T #[v, .int .i64 last, .int .i64 most]
 row : G.OwnRow S w 177 3 v l.length (l.flatMap G.Pod.enc)
 own : S g
 small : l.length ≤ 100000000
 lim : ∀ b, S b → b < w.heap.size
section
variable {T : TypeId} {S S' C : Nat → Prop} {w w' w0 : World} {g : Nat} {v : Value} {l : List G.Pod} {last most : Int}
theorem FAt.chg (h : FAt T S w g v l last most) (hc : G.Chg C w w') (hs : ∀ b, S b → ¬ C b) : FAt T S w' g v l last most :=
 ⟨h.head.chg hc (hs g h.own), h.row.chg hc hs, h.own, h.small, fun b hb => Nat.lt_of_lt_of_le (h.lim b hb) hc.size⟩
theorem FAt.below (h : FAt T S w g v l last most) (hb : Below w.heap.size w w') : FAt T S w' g v l last most :=
 h.chg (C := fun _ => False) (G.Chg.of_below hb (Nat.le_refl _)) (fun _ _ h => h)
theorem FAt.mono (h : FAt T S w g v l last most) (hs : ∀ b, b < w.heap.size → S b → S' b) (hl : ∀ b, S' b → b < w.heap.size) : FAt T S' w g v l last most :=
 ⟨h.head, h.row.mono hs, hs g h.head.inside h.own, h.small, hl⟩
theorem FAt.up (h : FAt T S w g v l last most) : FAt T (G.Plus S w0 w) w g v l last most :=
 h.mono (fun _ _ hb => .inl hb) (fun b hb => by rcases hb with hb | hb; exact h.lim b hb; exact hb.2)
theorem FAt.alloc (h : FAt T S w g v l last most) (o : Obj) : FAt T S (w.alloc o) g v l last most := h.chg (C := fun _ => False) ((G.Chg.refl _ w).alloc o) (fun _ _ h => h)
theorem FAt.drew (h : FAt T S w g v l last most) : FAt T S w.drew g v l last most := ⟨h.head.drew, h.row.drew, h.own, h.small, h.lim⟩
theorem FAt.pod (h : FAt T S w g v l last most) {k : Nat} {p : G.Pod} (hk : l[k]? = some p) :
  ∃ b cap, v = .slice (some ⟨b, 0, none⟩) l.length cap ∧ S b ∧ l.length ≤ cap ∧ cap ≤ maxLen ∧ b < w.heap.size ∧ w.cell? ⟨b, k * 3, none⟩ = some (.int .i64 p.id) ∧ w.cell? ⟨b, k * 3 + 1, none⟩ = some (.int .i64 p.state) ∧ w.cell? ⟨b, k * 3 + 2, none⟩ = some (.int .i64 p.load) ∧ (∀ i, w.frozen? ⟨b, i, none⟩ = false) := by
 obtain ⟨b, cap, e, hS, h1, h2, h3⟩ := h.row.form (by have := G.get_lt hk; omega)
 exact ⟨b, cap, e, hS, h1, h2, h3.inside, h3.cell (G.flat_get (j := 0) G.Pod.enc_length hk rfl), h3.cell (G.flat_get (j := 1) G.Pod.enc_length hk rfl), h3.cell (G.flat_get (j := 2) G.Pod.enc_length hk rfl), h3.soft⟩
theorem FAt.apart (h : FAt T S w g v l last most) (hT : T ≠ 177) : ∀ b, v.ownBlock = some b → b ≠ g := h.row.apartAt h.head (Ne.symm hT)
end
theorem fle_drewN {B : Nat} {w w' : World} (h : Below B w w') (n : Nat) : Below B w (w'.drewN n) := ⟨h.os, h.tape, h.output, h.size, h.block⟩
def FleRead (w : World) (v : Value) (e : Ending) (w' : World) : Prop := e = .returned v ∧ Below w.heap.size w w'
theorem fleCount (S : Nat → Prop) (g : Nat) (v : Value) (l : List G.Pod) (last most : Int) (w : World) (h : FAt 227 S w g v l last most) :
  Calls Tryz.prog 164 #[.pointer (some ⟨g, 0, none⟩)] w (FleRead w (.int .i64 (G.liveN l))) := by
 obtain ⟨A, cap, rfl, _, _, _⟩ := h.row.slice
 have hc := h.head.here (i := 0) rfl
 have hs := h.small
 have HH := J h
 clear h
 go_enter Tryz.func164, Tryz.ntmps164
 go_wp2_with fail
 go_loopw [3, 11] (fun n i wr => ∃ k : Nat, k ≤ l.length ∧ i = .int .i64 k ∧ n = .int .i64 (((l.take k).countP G.lives : Nat) : Int) ∧ Below w.heap.size w wr) (fun _ i _ => l.length - (intOf i).toNat)
 case atStart => exact ⟨0, by omega, rfl, by simp, Below.refl _ _⟩
 clear hc
 obtain ⟨k, hk, rfl, rfl, hb⟩ := hrel
 by_cases hlt : k < l.length
 ·obtain ⟨p, hp⟩ := G.get_some l hlt
  obtain ⟨b, cap', e, hS, _, _, hbl, c0, c1, c2, _⟩ := (HH.u.below hb).pod hp
  cases e
  have i0 : (0 : Int) ≤ (k : Int) := by omega
  have i1 : (k : Int) < (l.length : Int) := by omega
  have HC := J (G.count_snoc (p := G.lives) hp)
  have hle : (l.take k).countP G.lives ≤ 100000000 := Nat.le_trans List.countP_le_length (by rw [List.length_take]; omega)
  generalize (l.take k).countP G.lives = N at HC hle ⊢
  have hle' : (N : Int) ≤ 100000000 := by omega
  have HB := J (hb.alloc hb.size (.cells #[.int .i64 p.id, .int .i64 p.state, .int .i64 p.load] 177))
  clear hp hb hle
  cases hf : (p.state == 4)
  ·have hf2 : (p.state != 4) = true := by simp only [bne, hf]; rfl
   have HT := J (show G.lives p = true by unfold G.lives; rw [hf]; rfl)
   go_wp2_with fail
   go_roundw
   case rel => exact ⟨k + 1, by omega, by go_num, by rw [HC.u, HT.u]; go_num, HB.u⟩
   case measure => simp [intOf]; omega
  have hf2 : (p.state != 4) = false := by simp only [bne, hf]; rfl
  have HT := J (show G.lives p = false by unfold G.lives; rw [hf]; rfl)
  go_wp2_with fail
  go_roundw
  case rel => exact ⟨k + 1, by omega, by go_num, by rw [HC.u, HT.u]; go_num, HB.u⟩
  case measure => simp [intOf]; omega
 have hke : k = l.length := by omega
 subst hke
 have HB := J hb
 clear hb
 rw [List.take_length]
 go_wp2_with fail
 go_ret
 exact ⟨rfl, HB.u⟩
theorem fle_two (w : World) (a b : Obj) : Below w.heap.size w ((w.alloc a).alloc b) := ((Below.refl _ w).alloc (Nat.le_refl _) a).alloc (by simp) b
theorem fleLess_gt (p q : G.Pod) (w : World) : Calls Tryz.prog 195 #[.agg #[.int .i64 p.id, .int .i64 p.state, .int .i64 p.load], .agg #[.int .i64 q.id, .int .i64 q.state, .int .i64 q.load]] w fun e w' => e = .returned (.bool (G.gtId p q)) ∧ Below w.heap.size w w' := by
 go_enter Tryz.func195, Tryz.ntmps195
 go_wp2_with fail
 go_ret
 exact ⟨rfl, fle_two _ _ _⟩
theorem fleLess_lt (p q : G.Pod) (w : World) : Calls Tryz.prog 187 #[.agg #[.int .i64 p.id, .int .i64 p.state, .int .i64 p.load], .agg #[.int .i64 q.id, .int .i64 q.state, .int .i64 q.load]] w fun e w' => e = .returned (.bool (G.ltLoad p q)) ∧ Below w.heap.size w w' := by
 go_enter Tryz.func187, Tryz.ntmps187
 go_wp2_with fail
 go_ret
 exact ⟨rfl, fle_two _ _ _⟩
theorem fleLess_both (p q : G.Pod) (w : World) : Calls Tryz.prog 196 #[.agg #[.int .i64 p.id, .int .i64 p.state, .int .i64 p.load], .agg #[.int .i64 q.id, .int .i64 q.state, .int .i64 q.load]] w fun e w' => e = .returned (.bool (G.ltBoth p q)) ∧ Below w.heap.size w w' := by
 by_cases h1 : p.load < q.load
 ·have HT := J (show G.ltBoth p q = true by unfold G.ltBoth; simp [h1])
  go_enter Tryz.func196, Tryz.ntmps196
  go_wp2_with fail
  go_ret
  exact ⟨by rw [HT.u] <;> rfl, fle_two _ _ _⟩
 cases h2 : (p.load == q.load)
 ·have HT := J (show G.ltBoth p q = false by unfold G.ltBoth; simp [h1, h2])
  have h1' : decide (p.load < q.load) = false := decide_eq_false h1
  clear h1
  go_enter Tryz.func196, Tryz.ntmps196
  go_wp2_with fail
  go_ret
  exact ⟨by rw [HT.u] <;> rfl, fle_two _ _ _⟩
 have HT := J (show G.ltBoth p q = decide (q.id < p.id) by unfold G.ltBoth; simp [h1, h2])
 have h1' : decide (p.load < q.load) = false := decide_eq_false h1
 clear h1
 go_enter Tryz.func196, Tryz.ntmps196
 go_wp2_with fail
 go_ret
 exact ⟨by rw [HT.u] <;> rfl, fle_two _ _ _⟩
theorem fle_keep7 {W w1 : World} {x g b j n cap : Nat} {p q : G.Pod} (hb : Below W.heap.size W w1) (h1 : x < W.heap.size) (h2 : g < W.heap.size) (h3 : b < W.heap.size)
  (y : W.cell? ⟨x, 0, none⟩ = some (.int .i64 p.id) ∧ W.cell? ⟨x, 1, none⟩ = some (.int .i64 p.state) ∧ W.cell? ⟨x, 2, none⟩ = some (.int .i64 p.load) ∧ W.cell? ⟨g, 0, none⟩ = some (.slice (some ⟨b, 0, none⟩) n cap) ∧ W.cell? ⟨b, j * 3, none⟩ = some (.int .i64 q.id) ∧ W.cell? ⟨b, j * 3 + 1, none⟩ = some (.int .i64 q.state) ∧ W.cell? ⟨b, j * 3 + 2, none⟩ = some (.int .i64 q.load)) :
  w1.cell? ⟨x, 0, none⟩ = some (.int .i64 p.id) ∧ w1.cell? ⟨x, 1, none⟩ = some (.int .i64 p.state) ∧ w1.cell? ⟨x, 2, none⟩ = some (.int .i64 p.load) ∧ w1.cell? ⟨g, 0, none⟩ = some (.slice (some ⟨b, 0, none⟩) n cap) ∧ w1.cell? ⟨b, j * 3, none⟩ = some (.int .i64 q.id) ∧ w1.cell? ⟨b, j * 3 + 1, none⟩ = some (.int .i64 q.state) ∧ w1.cell? ⟨b, j * 3 + 2, none⟩ = some (.int .i64 q.load) := by
 obtain ⟨y0, y1, y2, y3, y4, y5, y6⟩ := y
 exact ⟨(hb.cell h1).trans y0, (hb.cell h1).trans y1, (hb.cell h1).trans y2, (hb.cell h2).trans y3, (hb.cell h3).trans y4, (hb.cell h3).trans y5, (hb.cell h3).trans y6⟩
/- best with the function (*fleet.Fleet).fewer$1 -/
theorem fleBest_gt (S : Nat → Prop) (g : Nat) (v : Value) (l : List G.Pod) (last most st : Int) (w : World) (h : FAt 227 S w g v l last most) :
  Calls Tryz.prog 186 #[.pointer (some ⟨g, 0, none⟩), .int .i64 st, .func (.func 195) #[] #[]] w (FleRead w (.int .i64 (G.idxOf (G.best st G.gtId l)))) := by
 obtain ⟨A, cap, rfl, _, _, _⟩ := h.row.slice
 have hc := h.head.here (i := 0) rfl
 have hs := h.small
 have HH := J h
 clear h
 go_enter Tryz.func186, Tryz.ntmps186
 go_wp2_with fail
 go_loopw [7, 15] (fun n i wr => ∃ k : Nat, k ≤ l.length ∧ i = .int .i64 k ∧ n = .int .i64 (G.idxOf (G.pick (fun p => p.state == st) G.gtId l k)) ∧ Below w.heap.size w wr) (fun _ i _ => l.length - (intOf i).toNat)
 case atStart => exact ⟨0, by omega, rfl, rfl, Below.refl _ _⟩
 clear hc
 obtain ⟨k, hk, rfl, rfl, hb⟩ := hrel
 by_cases hlt : k < l.length
 ·obtain ⟨p, hp⟩ := G.get_some l hlt
  obtain ⟨b, cap', e, hS, _, _, hbl, c0, c1, c2, _⟩ := (HH.u.below hb).pod hp
  cases e
  have i0 : (0 : Int) ≤ (k : Int) := by omega
  have i1 : (k : Int) < (l.length : Int) := by omega
  have HP := J hp
  have HB := J (hb.alloc hb.size (.cells #[.int .i64 p.id, .int .i64 p.state, .int .i64 p.load] 177))
  have HX := J (G.At.made wr 177 #[.int .i64 p.id, .int .i64 p.state, .int .i64 p.load])
  have HU := J (G.pick_succ (w := fun p => p.state == st) (f := G.gtId) hp)
  clear hp hb
  cases hf : (p.state == st)
  ·have HN := J (show G.pick (fun p => p.state == st) G.gtId l (k + 1) = G.pick (fun p => p.state == st) G.gtId l k by rw [HU.u]; simp only [hf]; rfl)
   go_wp2_with fail
   go_quiet (fail)
   go_wp2_with fail
   go_roundw
   case rel => exact ⟨k + 1, by omega, by go_num, by rw [HN.u], fle_drewN HB.u _⟩
   case measure => simp [intOf]; omega
  cases hj : G.pick (fun p => p.state == st) G.gtId l k with
  | none =>
   have HN := J (show G.pick (fun p => p.state == st) G.gtId l (k + 1) = some k by rw [HU.u, hj]; simp only [hf, G.beats]; rfl)
   simp only [G.idxOf]
   clear hj
   go_wp2_with fail
   go_quiet (fail)
   go_wp2_with fail
   go_roundw
   case rel => exact ⟨k + 1, by omega, by go_num, by rw [HN.u] <;> rfl, fle_drewN HB.u _⟩
   case measure => simp [intOf]; omega
  | some j =>
   obtain ⟨hjk, q, hq, _⟩ := G.pick_lt hj
   obtain ⟨b', cap', e, _, _, _, _, d0, d1, d2, _⟩ := (HH.u.below HB.u).pod hq
   cases e
   have hc : (wr.alloc (.cells #[.int .i64 p.id, .int .i64 p.state, .int .i64 p.load] 177)).cell? ⟨g, 0, none⟩ = some (.slice (some ⟨b, 0, none⟩) l.length cap) := (HH.u.below HB.u).head.here rfl
   simp only [G.idxOf]
   have j0 : (0 : Int) ≤ (j : Int) := by omega
   have j1 : (j : Int) < (l.length : Int) := by omega
   have HL := J (show G.pick (fun p => p.state == st) G.gtId l (k + 1) = if G.gtId p q then some k else some j by rw [HU.u, hj]; simp only [hf, G.beats, hq, Bool.true_and])
   have x0 := HX.u.here (i := 0) rfl; have x1 := HX.u.here (i := 1) rfl; have x2 := HX.u.here (i := 2) rfl
   clear hj hq
   go_upto_region 5 with fail
   clear c0 c1 c2
   generalize wr.alloc (.cells #[.int .i64 p.id, .int .i64 p.state, .int .i64 p.load] 177) = W at HB HX hc d0 d1 d2 x0 x1 x2 ⊢
   go_wp2_with fail
   have y : W.drew.cell? ⟨wr.heap.size, 0, none⟩ = some (.int .i64 p.id) ∧ W.drew.cell? ⟨wr.heap.size, 1, none⟩ = some (.int .i64 p.state) ∧ W.drew.cell? ⟨wr.heap.size, 2, none⟩ = some (.int .i64 p.load) ∧ W.drew.cell? ⟨g, 0, none⟩ = some (.slice (some ⟨b, 0, none⟩) l.length cap) ∧ W.drew.cell? ⟨b, j * 3, none⟩ = some (.int .i64 q.id) ∧ W.drew.cell? ⟨b, j * 3 + 1, none⟩ = some (.int .i64 q.state) ∧ W.drew.cell? ⟨b, j * 3 + 2, none⟩ = some (.int .i64 q.load) := ⟨x0, x1, x2, hc, d0, d1, d2⟩
   have hlt1 : wr.heap.size < W.drew.heap.size := HX.u.inside
   have hlt2 : g < W.drew.heap.size := World.block_lt_of_cell? W _ hc
   have hlt3 : b < W.drew.heap.size := World.block_lt_of_cell? W _ d0
   obtain ⟨ls, hls⟩ : ∃ ls, Hid (G.gtId p q = ls) := ⟨_, J rfl⟩
   rw [hls.u] at HL
   go_region_held3 (fun w' => w'.cell? ⟨wr.heap.size, 0, none⟩ = some (.int .i64 p.id) ∧ w'.cell? ⟨wr.heap.size, 1, none⟩ = some (.int .i64 p.state) ∧ w'.cell? ⟨wr.heap.size, 2, none⟩ = some (.int .i64 p.load) ∧ w'.cell? ⟨g, 0, none⟩ = some (.slice (some ⟨b, 0, none⟩) l.length cap) ∧ w'.cell? ⟨b, j * 3, none⟩ = some (.int .i64 q.id) ∧ w'.cell? ⟨b, j * 3 + 1, none⟩ = some (.int .i64 q.state) ∧ w'.cell? ⟨b, j * 3 + 2, none⟩ = some (.int .i64 q.load)) (first | exact y1 | exact y | go_keep) ((go_at_call 195; refine (fleLess_gt p q _).mono ?_; rintro e w1 ⟨rfl, hb1⟩; rw [hls.u]; have y1 := fle_keep7 hb1 hlt1 hlt2 hlt3 y))
   all_goals
    have HB2 := J (HB.u.drew.trans (hb1.mono HB.u.drew.size))
    clear x0 x1 x2 hc d0 d1 d2 y hb1 y1 hlt1 hlt2 hlt3 hls
    simp only [show decide ((j : Int) < 0) = false from decide_eq_false (by omega), Bool.false_or]
    cases ls
    ·have HN := J HL.u
     go_wp2_with fail
     go_roundw
     case rel => exact ⟨k + 1, by omega, by go_num, by rw [HN.u] <;> rfl, HB2.u⟩
     case measure => simp [intOf]; omega
    have HN := J HL.u
    go_wp2_with fail
    go_roundw
    case rel => exact ⟨k + 1, by omega, by go_num, by rw [HN.u] <;> rfl, HB2.u⟩
    case measure => simp [intOf]; omega
 have hke : k = l.length := by omega
 subst hke
 have HB := J hb
 clear hb
 go_wp2_with fail
 go_ret
 exact ⟨rfl, HB.u⟩
/- best with the function (*fleet.Fleet).fewer$2 -/
theorem fleBest_both (S : Nat → Prop) (g : Nat) (v : Value) (l : List G.Pod) (last most st : Int) (w : World) (h : FAt 227 S w g v l last most) :
  Calls Tryz.prog 186 #[.pointer (some ⟨g, 0, none⟩), .int .i64 st, .func (.func 196) #[] #[]] w (FleRead w (.int .i64 (G.idxOf (G.best st G.ltBoth l)))) := by
 obtain ⟨A, cap, rfl, _, _, _⟩ := h.row.slice
 have hc := h.head.here (i := 0) rfl
 have hs := h.small
 have HH := J h
 clear h
 go_enter Tryz.func186, Tryz.ntmps186
 go_wp2_with fail
 go_loopw [7, 15] (fun n i wr => ∃ k : Nat, k ≤ l.length ∧ i = .int .i64 k ∧ n = .int .i64 (G.idxOf (G.pick (fun p => p.state == st) G.ltBoth l k)) ∧ Below w.heap.size w wr) (fun _ i _ => l.length - (intOf i).toNat)
 case atStart => exact ⟨0, by omega, rfl, rfl, Below.refl _ _⟩
 clear hc
 obtain ⟨k, hk, rfl, rfl, hb⟩ := hrel
 by_cases hlt : k < l.length
 ·obtain ⟨p, hp⟩ := G.get_some l hlt
  obtain ⟨b, cap', e, hS, _, _, hbl, c0, c1, c2, _⟩ := (HH.u.below hb).pod hp
  cases e
  have i0 : (0 : Int) ≤ (k : Int) := by omega
  have i1 : (k : Int) < (l.length : Int) := by omega
  have HP := J hp
  have HB := J (hb.alloc hb.size (.cells #[.int .i64 p.id, .int .i64 p.state, .int .i64 p.load] 177))
  have HX := J (G.At.made wr 177 #[.int .i64 p.id, .int .i64 p.state, .int .i64 p.load])
  have HU := J (G.pick_succ (w := fun p => p.state == st) (f := G.ltBoth) hp)
  clear hp hb
  cases hf : (p.state == st)
  ·have HN := J (show G.pick (fun p => p.state == st) G.ltBoth l (k + 1) = G.pick (fun p => p.state == st) G.ltBoth l k by rw [HU.u]; simp only [hf]; rfl)
   go_wp2_with fail
   go_quiet (fail)
   go_wp2_with fail
   go_roundw
   case rel => exact ⟨k + 1, by omega, by go_num, by rw [HN.u], fle_drewN HB.u _⟩
   case measure => simp [intOf]; omega
  cases hj : G.pick (fun p => p.state == st) G.ltBoth l k with
  | none =>
   have HN := J (show G.pick (fun p => p.state == st) G.ltBoth l (k + 1) = some k by rw [HU.u, hj]; simp only [hf, G.beats]; rfl)
   simp only [G.idxOf]
   clear hj
   go_wp2_with fail
   go_quiet (fail)
   go_wp2_with fail
   go_roundw
   case rel => exact ⟨k + 1, by omega, by go_num, by rw [HN.u] <;> rfl, fle_drewN HB.u _⟩
   case measure => simp [intOf]; omega
  | some j =>
   obtain ⟨hjk, q, hq, _⟩ := G.pick_lt hj
   obtain ⟨b', cap', e, _, _, _, _, d0, d1, d2, _⟩ := (HH.u.below HB.u).pod hq
   cases e
   have hc : (wr.alloc (.cells #[.int .i64 p.id, .int .i64 p.state, .int .i64 p.load] 177)).cell? ⟨g, 0, none⟩ = some (.slice (some ⟨b, 0, none⟩) l.length cap) := (HH.u.below HB.u).head.here rfl
   simp only [G.idxOf]
   have j0 : (0 : Int) ≤ (j : Int) := by omega
   have j1 : (j : Int) < (l.length : Int) := by omega
   have HL := J (show G.pick (fun p => p.state == st) G.ltBoth l (k + 1) = if G.ltBoth p q then some k else some j by rw [HU.u, hj]; simp only [hf, G.beats, hq, Bool.true_and])
   have x0 := HX.u.here (i := 0) rfl; have x1 := HX.u.here (i := 1) rfl; have x2 := HX.u.here (i := 2) rfl
   clear hj hq
   go_upto_region 5 with fail
   clear c0 c1 c2
   generalize wr.alloc (.cells #[.int .i64 p.id, .int .i64 p.state, .int .i64 p.load] 177) = W at HB HX hc d0 d1 d2 x0 x1 x2 ⊢
   go_wp2_with fail
   have y : W.drew.cell? ⟨wr.heap.size, 0, none⟩ = some (.int .i64 p.id) ∧ W.drew.cell? ⟨wr.heap.size, 1, none⟩ = some (.int .i64 p.state) ∧ W.drew.cell? ⟨wr.heap.size, 2, none⟩ = some (.int .i64 p.load) ∧ W.drew.cell? ⟨g, 0, none⟩ = some (.slice (some ⟨b, 0, none⟩) l.length cap) ∧ W.drew.cell? ⟨b, j * 3, none⟩ = some (.int .i64 q.id) ∧ W.drew.cell? ⟨b, j * 3 + 1, none⟩ = some (.int .i64 q.state) ∧ W.drew.cell? ⟨b, j * 3 + 2, none⟩ = some (.int .i64 q.load) := ⟨x0, x1, x2, hc, d0, d1, d2⟩
   have hlt1 : wr.heap.size < W.drew.heap.size := HX.u.inside
   have hlt2 : g < W.drew.heap.size := World.block_lt_of_cell? W _ hc
   have hlt3 : b < W.drew.heap.size := World.block_lt_of_cell? W _ d0
   obtain ⟨ls, hls⟩ : ∃ ls, Hid (G.ltBoth p q = ls) := ⟨_, J rfl⟩
   rw [hls.u] at HL
   go_region_held3 (fun w' => w'.cell? ⟨wr.heap.size, 0, none⟩ = some (.int .i64 p.id) ∧ w'.cell? ⟨wr.heap.size, 1, none⟩ = some (.int .i64 p.state) ∧ w'.cell? ⟨wr.heap.size, 2, none⟩ = some (.int .i64 p.load) ∧ w'.cell? ⟨g, 0, none⟩ = some (.slice (some ⟨b, 0, none⟩) l.length cap) ∧ w'.cell? ⟨b, j * 3, none⟩ = some (.int .i64 q.id) ∧ w'.cell? ⟨b, j * 3 + 1, none⟩ = some (.int .i64 q.state) ∧ w'.cell? ⟨b, j * 3 + 2, none⟩ = some (.int .i64 q.load)) (first | exact y1 | exact y | go_keep) ((go_at_call 196; refine (fleLess_both p q _).mono ?_; rintro e w1 ⟨rfl, hb1⟩; rw [hls.u]; have y1 := fle_keep7 hb1 hlt1 hlt2 hlt3 y))
   all_goals
    have HB2 := J (HB.u.drew.trans (hb1.mono HB.u.drew.size))
    clear x0 x1 x2 hc d0 d1 d2 y hb1 y1 hlt1 hlt2 hlt3 hls
    simp only [show decide ((j : Int) < 0) = false from decide_eq_false (by omega), Bool.false_or]
    cases ls
    ·have HN := J HL.u
     go_wp2_with fail
     go_roundw
     case rel => exact ⟨k + 1, by omega, by go_num, by rw [HN.u] <;> rfl, HB2.u⟩
     case measure => simp [intOf]; omega
    have HN := J HL.u
    go_wp2_with fail
    go_roundw
    case rel => exact ⟨k + 1, by omega, by go_num, by rw [HN.u] <;> rfl, HB2.u⟩
    case measure => simp [intOf]; omega
 have hke : k = l.length := by omega
 subst hke
 have HB := J hb
 clear hb
 go_wp2_with fail
 go_ret
 exact ⟨rfl, HB.u⟩
/- best with the function (*fleet.Fleet).Give$1 -/
theorem fleBest_lt (S : Nat → Prop) (g : Nat) (v : Value) (l : List G.Pod) (last most st : Int) (w : World) (h : FAt 227 S w g v l last most) :
  Calls Tryz.prog 186 #[.pointer (some ⟨g, 0, none⟩), .int .i64 st, .func (.func 187) #[] #[]] w (FleRead w (.int .i64 (G.idxOf (G.best st G.ltLoad l)))) := by
 obtain ⟨A, cap, rfl, _, _, _⟩ := h.row.slice
 have hc := h.head.here (i := 0) rfl
 have hs := h.small
 have HH := J h
 clear h
 go_enter Tryz.func186, Tryz.ntmps186
 go_wp2_with fail
 go_loopw [7, 15] (fun n i wr => ∃ k : Nat, k ≤ l.length ∧ i = .int .i64 k ∧ n = .int .i64 (G.idxOf (G.pick (fun p => p.state == st) G.ltLoad l k)) ∧ Below w.heap.size w wr) (fun _ i _ => l.length - (intOf i).toNat)
 case atStart => exact ⟨0, by omega, rfl, rfl, Below.refl _ _⟩
 clear hc
 obtain ⟨k, hk, rfl, rfl, hb⟩ := hrel
 by_cases hlt : k < l.length
 ·obtain ⟨p, hp⟩ := G.get_some l hlt
  obtain ⟨b, cap', e, hS, _, _, hbl, c0, c1, c2, _⟩ := (HH.u.below hb).pod hp
  cases e
  have i0 : (0 : Int) ≤ (k : Int) := by omega
  have i1 : (k : Int) < (l.length : Int) := by omega
  have HP := J hp
  have HB := J (hb.alloc hb.size (.cells #[.int .i64 p.id, .int .i64 p.state, .int .i64 p.load] 177))
  have HX := J (G.At.made wr 177 #[.int .i64 p.id, .int .i64 p.state, .int .i64 p.load])
  have HU := J (G.pick_succ (w := fun p => p.state == st) (f := G.ltLoad) hp)
  clear hp hb
  cases hf : (p.state == st)
  ·have HN := J (show G.pick (fun p => p.state == st) G.ltLoad l (k + 1) = G.pick (fun p => p.state == st) G.ltLoad l k by rw [HU.u]; simp only [hf]; rfl)
   go_wp2_with fail
   go_quiet (fail)
   go_wp2_with fail
   go_roundw
   case rel => exact ⟨k + 1, by omega, by go_num, by rw [HN.u], fle_drewN HB.u _⟩
   case measure => simp [intOf]; omega
  cases hj : G.pick (fun p => p.state == st) G.ltLoad l k with
  | none =>
   have HN := J (show G.pick (fun p => p.state == st) G.ltLoad l (k + 1) = some k by rw [HU.u, hj]; simp only [hf, G.beats]; rfl)
   simp only [G.idxOf]
   clear hj
   go_wp2_with fail
   go_quiet (fail)
   go_wp2_with fail
   go_roundw
   case rel => exact ⟨k + 1, by omega, by go_num, by rw [HN.u] <;> rfl, fle_drewN HB.u _⟩
   case measure => simp [intOf]; omega
  | some j =>
   obtain ⟨hjk, q, hq, _⟩ := G.pick_lt hj
   obtain ⟨b', cap', e, _, _, _, _, d0, d1, d2, _⟩ := (HH.u.below HB.u).pod hq
   cases e
   have hc : (wr.alloc (.cells #[.int .i64 p.id, .int .i64 p.state, .int .i64 p.load] 177)).cell? ⟨g, 0, none⟩ = some (.slice (some ⟨b, 0, none⟩) l.length cap) := (HH.u.below HB.u).head.here rfl
   simp only [G.idxOf]
   have j0 : (0 : Int) ≤ (j : Int) := by omega
   have j1 : (j : Int) < (l.length : Int) := by omega
   have HL := J (show G.pick (fun p => p.state == st) G.ltLoad l (k + 1) = if G.ltLoad p q then some k else some j by rw [HU.u, hj]; simp only [hf, G.beats, hq, Bool.true_and])
   have x0 := HX.u.here (i := 0) rfl; have x1 := HX.u.here (i := 1) rfl; have x2 := HX.u.here (i := 2) rfl
   clear hj hq
   go_upto_region 5 with fail
   clear c0 c1 c2
   generalize wr.alloc (.cells #[.int .i64 p.id, .int .i64 p.state, .int .i64 p.load] 177) = W at HB HX hc d0 d1 d2 x0 x1 x2 ⊢
   go_wp2_with fail
   have y : W.drew.cell? ⟨wr.heap.size, 0, none⟩ = some (.int .i64 p.id) ∧ W.drew.cell? ⟨wr.heap.size, 1, none⟩ = some (.int .i64 p.state) ∧ W.drew.cell? ⟨wr.heap.size, 2, none⟩ = some (.int .i64 p.load) ∧ W.drew.cell? ⟨g, 0, none⟩ = some (.slice (some ⟨b, 0, none⟩) l.length cap) ∧ W.drew.cell? ⟨b, j * 3, none⟩ = some (.int .i64 q.id) ∧ W.drew.cell? ⟨b, j * 3 + 1, none⟩ = some (.int .i64 q.state) ∧ W.drew.cell? ⟨b, j * 3 + 2, none⟩ = some (.int .i64 q.load) := ⟨x0, x1, x2, hc, d0, d1, d2⟩
   have hlt1 : wr.heap.size < W.drew.heap.size := HX.u.inside
   have hlt2 : g < W.drew.heap.size := World.block_lt_of_cell? W _ hc
   have hlt3 : b < W.drew.heap.size := World.block_lt_of_cell? W _ d0
   obtain ⟨ls, hls⟩ : ∃ ls, Hid (G.ltLoad p q = ls) := ⟨_, J rfl⟩
   rw [hls.u] at HL
   go_region_held3 (fun w' => w'.cell? ⟨wr.heap.size, 0, none⟩ = some (.int .i64 p.id) ∧ w'.cell? ⟨wr.heap.size, 1, none⟩ = some (.int .i64 p.state) ∧ w'.cell? ⟨wr.heap.size, 2, none⟩ = some (.int .i64 p.load) ∧ w'.cell? ⟨g, 0, none⟩ = some (.slice (some ⟨b, 0, none⟩) l.length cap) ∧ w'.cell? ⟨b, j * 3, none⟩ = some (.int .i64 q.id) ∧ w'.cell? ⟨b, j * 3 + 1, none⟩ = some (.int .i64 q.state) ∧ w'.cell? ⟨b, j * 3 + 2, none⟩ = some (.int .i64 q.load)) (first | exact y1 | exact y | go_keep) ((go_at_call 187; refine (fleLess_lt p q _).mono ?_; rintro e w1 ⟨rfl, hb1⟩; rw [hls.u]; have y1 := fle_keep7 hb1 hlt1 hlt2 hlt3 y))
   all_goals
    have HB2 := J (HB.u.drew.trans (hb1.mono HB.u.drew.size))
    clear x0 x1 x2 hc d0 d1 d2 y hb1 y1 hlt1 hlt2 hlt3 hls
    simp only [show decide ((j : Int) < 0) = false from decide_eq_false (by omega), Bool.false_or]
    cases ls
    ·have HN := J HL.u
     go_wp2_with fail
     go_roundw
     case rel => exact ⟨k + 1, by omega, by go_num, by rw [HN.u] <;> rfl, HB2.u⟩
     case measure => simp [intOf]; omega
    have HN := J HL.u
    go_wp2_with fail
    go_roundw
    case rel => exact ⟨k + 1, by omega, by go_num, by rw [HN.u] <;> rfl, HB2.u⟩
    case measure => simp [intOf]; omega
 have hke : k = l.length := by omega
 subst hke
 have HB := J hb
 clear hb
 go_wp2_with fail
 go_ret
 exact ⟨rfl, HB.u⟩
open Go.RowKit
def fle_zero : List Value := [.int .i64 0, .int .i64 0, .int .i64 0]
theorem fle_clear (w : World) (ty : TypeId) (b o c : Nat) (hc : ∀ j, j < 3 → (w.cell? ⟨b, o + j, none⟩).isSome = true) (hf : ∀ j, j < 3 → w.frozen? ⟨b, o + j, none⟩ = false) :
  (Builtin.clear_ #[174] ty #[.slice (some ⟨b, o, none⟩) 1 c]).run Tryz.prog w = .ok (.tuple #[]) (w.setCells b o fle_zero) := by
 have hv : ∀ w, (zeroValue 177).run Tryz.prog w = .ok (.agg #[.int .i64 0, .int .i64 0, .int .i64 0]) w := fun w => by kernel_rfl
 have hst := run_storeCells_cells (P := Tryz.prog) b o fle_zero 0 w (by simpa [fle_zero] using hc) (by simpa [fle_zero] using hf) (by simp [fle_zero, Value.oneCell'])
 simp only [Nat.add_zero] at hst
 have hzc : (Builtin.zeroCells (Value.agg #[.int .i64 0, .int .i64 0, .int .i64 0]).cells 1).toList = fle_zero := by kernel_rfl
 simp [Builtin.clear_, run_underlying Tryz.underlying174, hv, hzc, hst]
theorem fle_delete (S : Nat → Prop) (w : World) (b cap n i : Nat) (xs : List Value) (h : G.OwnRow S w 177 3 (.slice (some ⟨b, 0, none⟩) n cap) n xs) (hi : i < n) (h1 : ∀ u ∈ xs, u.oneCell' = true) :
  Calls Tryz.prog 190 #[.slice (some ⟨b, 0, none⟩) n cap, .int .i64 i, .int .i64 ((i : Int) + 1)] w fun e w' => e = .returned (.slice (some ⟨b, 0, none⟩) (n - 1) cap) ∧
   G.OwnRow S w' 177 3 (.slice (some ⟨b, 0, none⟩) (n - 1) cap) (n - 1) (xs.take (i * 3) ++ xs.drop ((i + 1) * 3)) ∧ G.Chg (fun x => x = b) w w' := by
 obtain ⟨b', cap', e, hS, hcap, hmax, hrow⟩ := h.form (by omega)
 cases e
 have hlen := h.1
 obtain ⟨news, hnews⟩ : ∃ news, news = xs.drop ((i + 1) * 3) := ⟨_, rfl⟩
 have hnl : news.length = (n - (i + 1)) * 3 := by rw [hnews, List.length_drop, hlen]; omega
 obtain ⟨A, hA, hsrc⟩ : ∃ A : Addr, (if cap = i + 1 then some (⟨b, 0, none⟩ : Addr) else some ⟨b, (i + 1) * 3, none⟩) = some A ∧ Hid (∀ t u, news[t]? = some u → w.drew.cell? (A.add t) = some u) := by
  by_cases hc : cap = i + 1
  ·refine ⟨⟨b, 0, none⟩, by simp [hc], fun t u hu => ?_⟩
   have h0 : news.length = 0 := by rw [hnl]; omega
   rw [List.length_eq_zero_iff.1 h0] at hu
   simp at hu
  refine ⟨⟨b, (i + 1) * 3, none⟩, by simp [hc], fun t u hu => ?_⟩
  rw [hnews, List.getElem?_drop] at hu
  rw [Addr.add_lit]
  exact hrow.cell hu
 have s2 : Hid (∀ u ∈ news, u.oneCell' = true) := fun u hu => h1 u (List.mem_of_mem_drop (by rw [hnews] at hu; exact hu))
 have s3 : Hid (∀ t, t < news.length → (w.drew.cell? ⟨b, 0 + i * 3 + t, none⟩).isSome = true ∧ w.drew.frozen? ⟨b, 0 + i * 3 + t, none⟩ = false) := by
  intro t ht
  rw [hnl] at ht
  have hlt : 0 + i * 3 + t < xs.length := by rw [hlen]; omega
  exact ⟨by show (w.cell? _).isSome = true; rw [hrow.cell (List.getElem?_eq_getElem hlt)]; rfl, hrow.soft _⟩
 obtain ⟨W1, hW1⟩ : ∃ W1, W1 = w.drew.setCells b (0 + i * 3) news := ⟨_, rfl⟩
 have hR1 : G.RowIn W1 b 177 (cap * 3) (xs.take (0 + i * 3) ++ news ++ xs.drop (0 + i * 3 + news.length)) := by
  rw [hW1]; exact G.RowIn.puts news _ hrow.drew (by rw [hlen, hnl]; omega)
 have hch1 : G.Chg (fun x => x = b) w W1 := by rw [hW1]; exact G.Chg.puts (S := fun x => x = b) (.inl rfl) _ _ (G.Chg.refl _ w).drew
 have hl1 : (xs.take (0 + i * 3) ++ news ++ xs.drop (0 + i * 3 + news.length)).length = n * 3 := by simp [hnl, hlen]; omega
 have hcl : ∀ ty c, (Builtin.clear_ #[174] ty #[.slice (some ⟨b, (i + (n - (i + 1))) * 3, none⟩) (n - (i + (n - (i + 1)))) c]).run Tryz.prog W1 = .ok (.tuple #[]) (W1.setCells b ((n - 1) * 3) fle_zero) := by
  rw [show i + (n - (i + 1)) = n - 1 by omega, show n - (n - 1) = 1 by omega]
  exact fun ty c => fle_clear W1 ty b _ _ (fun t ht => by
   rw [hR1.cell (List.getElem?_eq_getElem (show (n - 1) * 3 + t < _ by rw [hl1]; omega))]; rfl) (fun t ht => hR1.soft _)
 have hfin : G.OwnRow S (W1.setCells b ((n - 1) * 3) fle_zero) 177 3 (.slice (some ⟨b, 0, none⟩) (n - 1) cap) (n - 1) (xs.take (i * 3) ++ xs.drop ((i + 1) * 3)) := by
  have hR2 := (G.RowIn.puts fle_zero ((n - 1) * 3) hR1 (by rw [hl1]; simp [fle_zero]; omega)).fewer ((n - 1) * 3)
  have e : (List.take ((n - 1) * 3) (xs.take (0 + i * 3) ++ news ++ xs.drop (0 + i * 3 + news.length)) ++ fle_zero ++ List.drop ((n - 1) * 3 + fle_zero.length) (xs.take (0 + i * 3) ++ news ++ xs.drop (0 + i * 3 + news.length))).take ((n - 1) * 3) = xs.take (i * 3) ++ xs.drop ((i + 1) * 3) := by
   have e1 : (xs.take (0 + i * 3) ++ news).length = (n - 1) * 3 := by simp [hnl, hlen]; omega
   rw [List.append_assoc, List.take_append_of_le_length (by rw [List.length_take, hl1]; omega), List.take_take, Nat.min_self, List.take_append_of_le_length (by omega), List.take_of_length_le (by omega), Nat.zero_add, hnews]
  rw [e] at hR2
  refine ⟨by simp [hlen]; omega, .inr ⟨b, cap, rfl, hS, by omega, hmax, hR2⟩⟩
 have hch2 : G.Chg (fun x => x = b) w (W1.setCells b ((n - 1) * 3) fle_zero) := G.Chg.puts (S := fun x => x = b) (.inl rfl) _ _ hch1
 have HF := J hfin; have HC := J hch2; have HW := J hW1
 have q1 : i ≤ cap := by omega
 have q2 : i + 1 ≤ cap := by omega
 have q3 : (i : Int) + 1 ≤ (n : Int) := by omega
 have q6 : (0 : Int) ≤ (i : Int) + 1 := by omega
 have q4 : n ≤ cap := hcap
 have q5 : cap ≤ 9223372036854775807 := hmax
 have hsl := J hnl
 have hn1 := J (show i + (n - (i + 1)) = n - 1 by omega)
 have HA := J hA
 obtain ⟨i0, hi0, hz0, hz1, hz2⟩ := info_parts fle_info
 clear h hrow hlen hnews hnl hR1 hl1 hch1 hch2 hfin hW1 h1 hcap hmax
 go_enter Tryz.func190, Tryz.ntmps190
 go_wp2_with fail
 clear hA
 go_region_law (refine step_append_room (by rfl) (.tmp 22) (.tmp 25) 174 (by rfl) 177 i0 3 Tryz.underlying174 hi0 hz1 b 0 i cap (by simp [Act.eval, Act.put]) A (n - (i + 1)) (cap - (i + 1)) news (by simp [Act.eval, Act.put, HA.u]) hsl.u hsrc.u s2.u (by omega) s3.u ?_; rw [← HW.u])
 go_wp2_with fail
 all_goals
  go_ret
  have hf := HF.u
  by_cases hcc : cap = i + 1
  ·rw [hcc] at hf
   first | exact ⟨(by rw [hn1.u] <;> rfl), hf, HC.u⟩ | exact absurd hcc ‹_›
  first | exact ⟨(by rw [hn1.u] <;> rfl), hf, HC.u⟩ | exact absurd ‹cap = i + 1› hcc
def fle_ClonePost (w : World) (n : Nat) (xs : List Value) (e : Ending) (w' : World) : Prop := ∃ v', e = .returned v' ∧ G.OwnRow (fun b => w.heap.size ≤ b) w' 177 3 v' n xs ∧ Below w.heap.size w w'
theorem fle_clone (S : Nat → Prop) (w : World) (v : Value) (n : Nat) (xs : List Value) (h : G.OwnRow S w 177 3 v n xs) (hn : n ≤ 100000000) (h1 : ∀ u ∈ xs, u.oneCell' = true) :
  Calls Tryz.prog 157 #[v] w (fle_ClonePost w n xs) := by
 have heq := @Lib.run_eql_slice_nil Tryz.prog
 rcases h.2 with ⟨rfl, rfl⟩ | ⟨g, cap, rfl, hS, hcap, hmax, hrow⟩
 ·have hx : xs = [] := List.length_eq_zero_iff.1 (h.1.trans (Nat.zero_mul _))
  have HF := J (show fle_ClonePost w 0 xs (.returned (.slice none 0 0)) w from ⟨_, rfl, by rw [hx]; exact G.OwnRow.nil _ _ _ _, Below.refl _ _⟩)
  have hq := fun w => Lib.run_eql_slice_nil (P := Tryz.prog) w 174 177 none 0 0 0 0 Tryz.underlying174
  clear h hx heq
  go_enter Tryz.func157, Tryz.ntmps157
  go_wp2_with fail
  go_ret
  exact HF.u
 have hq := fun w => Lib.run_eql_slice_nil (P := Tryz.prog) w 174 177 (some ⟨g, 0, none⟩) n cap 0 0 Tryz.underlying174
 have hlen := h.1
 obtain ⟨i0, hi0, hz0, hz1, hz2⟩ := info_parts fle_info
 have HR := J hrow; have H1 := J h1; have HL := J hlen
 have hown : (w.alloc (.cells #[] 177)).ownsRow w.heap.size 177 3 (.slice (some ⟨w.heap.size, 0, none⟩) 0 0) 0 [] := World.ownsRow_made w #[] 0 (Nat.le_refl _) (Nat.zero_le _) rfl
 have HO := J hown
 have hm3 := J (show 0 + n ≤ maxLen by simp only [maxLen]; omega)
 have hm4 := J (show (0 + n) * 24 ≤ 140737488355328 by omega)
 clear h hrow h1 hlen hown hcap hmax hn heq
 go_enter Tryz.func157, Tryz.ntmps157
 go_wp2_with (at_builtin; refine wpList_append_own _ (by rfl) (.tmp 5) (.tmp 6) 174 (by rfl) w.heap.size 177 i0 (.agg #[.int .i64 0, .int .i64 0, .int .i64 0]) 3 24 Tryz.underlying174 hi0 hz0 hz1 hz2 rfl (by decide) _ _ _ rfl HO.u ⟨g, 0, none⟩ n cap xs rfl HL.u ?c1 H1.u hm3.u hm4.u ?c5 ?_)
 case c1 => exact fun j u hu => by rw [Addr.add_lit, Nat.zero_add]; exact (HR.u.alloc _).cell hu
 case c5 => simp
 intro v' w1 hown1 hg1 _
 have HF := J (show fle_ClonePost w n xs (.returned v') w1 from by
  refine ⟨v', rfl, ?_, (((Below.refl _ w).alloc (Nat.le_refl _) _)).grown hg1 (by simp) (fun k hk => by simp [Value.ownBlock] at hk; omega)⟩
  exact G.OwnRow.of_owns hown1 (G.own_ge hown1))
 clear hown1 hg1
 go_wp2_with fail
 go_ret
 exact HF.u
/- slices.IndexFunc at []api.Pod, the function (*fleet.Fleet).find$1 -/
theorem fleF_index (B : Nat) (p : G.Pod → Bool) (l : List G.Pod) (v : Value) (w : World) (hv : G.ListIn w 3 G.Pod.enc v l) (hlen : l.length ≤ 100000000)
  (hp : ∀ (m : G.Pod) (W : World), Below w.heap.size w W → Calls Tryz.prog 189 #[.agg #[.int .i64 m.id, .int .i64 m.state, .int .i64 m.load], .pointer (some ⟨B, 0, none⟩)] W fun e W' => e = .returned (.bool (p m)) ∧ Below W.heap.size W W') :
  Calls Tryz.prog 188 #[v, .func (.func 189) #[] #[.pointer (some ⟨B, 0, none⟩)]] w fun e w' => e = .returned (.int .i64 (G.idxOf (G.firstAt p l))) ∧ Below w.heap.size w w' := by
 obtain ⟨A, cap, rfl, hA⟩ := hv
 have HA := J hA; have HP := J hp
 clear hA hp
 go_enter Tryz.func188, Tryz.ntmps188
 go_wp2_with fail
 go_loopw [8] (fun i wr => ∃ k : Nat, k ≤ l.length ∧ i = .int .i64 k ∧ Hid (∀ (t : Nat) (b : G.Pod), t < k → l[t]? = some b → p b = false) ∧ Below w.heap.size w wr) (fun i _ => l.length - (intOf i).toNat)
 case atStart => exact ⟨0, by omega, rfl, fun t b ht => by omega, Below.refl _ _⟩
 obtain ⟨k, hk, rfl, hno, hb⟩ := hrel
 by_cases hlt : k < l.length
 ·obtain ⟨m, hm⟩ := G.get_some l hlt
  obtain ⟨b, off, rfl, hbl, hc⟩ := HA.u (by omega)
  have cl : ∀ (j : Nat) (u : Value), m.enc[j]? = some u → wr.cell? ⟨b, off + k * 3 + j, none⟩ = some u := fun j u hu => (hb.cell (p := ⟨b, off + k * 3 + j, none⟩) hbl).trans (hc k m j u hm hu)
  have c0 : wr.cell? ⟨b, off + k * 3, none⟩ = _ := cl 0 _ rfl
  have c1 := cl 1 _ rfl; have c2 := cl 2 _ rfl
  have i0 : (0 : Int) ≤ (k : Int) := by omega
  have i1 : (k : Int) < (l.length : Int) := by omega
  have HM := J hm
  clear hc cl hm
  go_wp2_with fail
  refine (HP.u m _ hb).mono ?_
  rintro e w1 ⟨rfl, hb1⟩
  have HB := J (hb.trans (hb1.mono hb.size))
  cases hpm : p m
  ·have HN := J (show ∀ (t : Nat) (b : G.Pod), t < k + 1 → l[t]? = some b → p b = false from fun t b ht hb => by
    rcases Nat.lt_succ_iff_lt_or_eq.mp ht with h | h
    ·exact hno.u t b h hb
    subst h; rw [HM.u] at hb; cases hb; exact hpm)
   clear hb hb1 hno hpm
   go_wp2_with fail
   go_roundw
   case rel => exact ⟨k + 1, by omega, by go_num, HN, HB.u⟩
   case measure => simp [intOf]; omega
  have HN := J (G.firstAt_some hno.u HM.u hpm)
  clear hb hb1 hno hpm
  go_wp2_with fail
  go_ret
  exact ⟨by rw [HN.u]; rfl, HB.u⟩
 have hke : k = l.length := by omega
 have HN := J (G.firstAt_none (p := p) (l := l) (fun t b hb => hno.u t b (by rw [hke]; exact G.get_lt hb) hb))
 have HB := J hb
 clear hb hno hke
 go_wp2_with fail
 go_ret
 exact ⟨by rw [HN.u]; rfl, HB.u⟩
theorem fle_one {l : List G.Pod} : ∀ u ∈ l.flatMap G.Pod.enc, u.oneCell' = true := by
 intro u hu
 obtain ⟨p, _, hp⟩ := List.mem_flatMap.1 hu
 simp [G.Pod.enc] at hp
 rcases hp with h | h | h <;> subst h <;> rfl
section
variable {T : TypeId} {S : Nat → Prop} {w w3 : World} {g b cap n : Nat} {l : List G.Pod} {last most : Int}
theorem FAt.cut (h : FAt T S w g (.slice (some ⟨b, 0, none⟩) l.length cap) l last most) {i : Nat} (hi : i < l.length) (hgb : g ≠ b)
  (h3 : G.OwnRow S w3 177 3 (.slice (some ⟨b, 0, none⟩) (l.length - 1) cap) (l.length - 1) ((l.flatMap G.Pod.enc).take (i * 3) ++ (l.flatMap G.Pod.enc).drop ((i + 1) * 3))) (hc : G.Chg (fun x => x = b) w w3) :
  w3.cell? ⟨g, 0, none⟩ = some (.slice (some ⟨b, 0, none⟩) l.length cap) ∧ w3.frozen? ⟨g, 0, none⟩ = false ∧
  FAt T S (w3.setCell ⟨g, 0, none⟩ (.slice (some ⟨b, 0, none⟩) (l.length - 1) cap)) g (.slice (some ⟨b, 0, none⟩) (l.length - 1) cap) (l.eraseIdx i) last most ∧ G.Chg S w (w3.setCell ⟨g, 0, none⟩ (.slice (some ⟨b, 0, none⟩) (l.length - 1) cap)) := by
 obtain ⟨b', cap', e, hS, _⟩ := h.row.form (by omega)
 cases e
 have hd := h.head.chg hc hgb
 have e1 : (l.eraseIdx i).length = l.length - 1 := by rw [List.length_eraseIdx]; simp [hi]
 refine ⟨hd.here rfl, hd.soft 0, ⟨hd.put 0 _, ?_, h.own, by rw [e1]; have := h.small; omega, fun c hc' => by rw [G.size_put]; exact Nat.lt_of_lt_of_le (h.lim c hc') hc.size⟩, (hc.mono (fun k _ e => by rw [e]; exact hS)).put (.inl h.own) _⟩
 rw [e1, G.flat_erase G.Pod.enc_length]
 exact h3.aside (p := ⟨g, 0, none⟩) (fun c hc' => by simp [Value.ownBlock] at hc'; show c ≠ g; omega) _
theorem FAt.put (h : FAt T S w g (.slice (some ⟨b, 0, none⟩) n cap) l last most) (hT : T ≠ 177) {k j : Nat} {r r' : G.Pod} {u : Value} (hk : l[k]? = some r) (hj : j < 3) (hu : r.enc.set j u = r'.enc) :
  FAt T S (w.setCell ⟨b, k * 3 + j, none⟩ u) g (.slice (some ⟨b, 0, none⟩) n cap) (l.set k r') last most ∧ G.Chg S w (w.setCell ⟨b, k * 3 + j, none⟩ u) := by
 have hkl := G.get_lt hk
 obtain ⟨b', cap', e, hS, _⟩ := h.row.form (by omega)
 cases e
 have hgb : b ≠ g := h.apart hT b rfl
 have p1 := h.row.put (G.flat_lt G.Pod.enc_length hkl hj) u
 rw [G.flat_set G.Pod.enc_length hk hj hu] at p1
 refine ⟨⟨h.head.other (p := ⟨b, k * 3 + j, none⟩) (Ne.symm hgb) _, ?_, h.own, by rw [List.length_set]; exact h.small, fun c hc => by rw [G.size_put]; exact h.lim c hc⟩, (G.Chg.refl S w).put (p := ⟨b, k * 3 + j, none⟩) (.inl hS) _⟩
 rw [List.length_set]; exact p1
end
def FlePost (T : TypeId) (S : Nat → Prop) (w : World) (g : Nat) (l : List G.Pod) (last most : Int) (e : Ending) (w' : World) : Prop :=
 (∃ x, e = .returned x) ∧ (∃ v, FAt T S w' g v l last most) ∧ G.Chg S w w'
theorem fleGone (S : Nat → Prop) (g : Nat) (v : Value) (l : List G.Pod) (last most : Int) (i : Nat) (w : World) (h : FAt 227 S w g v l last most) (hi : i < l.length) :
  Calls Tryz.prog 171 #[.pointer (some ⟨g, 0, none⟩), .int .i64 i] w (FlePost 227 S w g (l.eraseIdx i) last most) := by
 obtain ⟨p, hp⟩ := G.get_some l hi
 obtain ⟨b, cap, rfl, hS, _, _, hbl, _⟩ := h.pod hp
 have hc := h.head.here (i := 0) rfl
 have hgb := h.apart (by decide) b rfl
 have hs := h.small
 have HH := J h
 have HG := J (Ne.symm hgb)
 have hil : (i : Int) < (l.length : Int) := by omega
 clear h hp hgb
 go_enter Tryz.func171, Tryz.ntmps171
 go_wp2_with fail
 refine (fle_delete S _ b cap _ i _ HH.u.row hi fle_one).mono ?_
 rintro e w3 ⟨rfl, h3, c3⟩
 obtain ⟨q0, q1, q2⟩ := HH.u.cut hi HG.u h3 c3
 have Q := J q2
 clear h3 c3 q2 hc
 go_wp2_with fail
 go_end0
 exact ⟨⟨_, rfl⟩, ⟨_, Q.u.1⟩, Q.u.2⟩
theorem fleIs (id : Int) (B : Nat) (m : G.Pod) (W : World) (h : W.cell? ⟨B, 0, none⟩ = some (.int .i64 id)) : Calls Tryz.prog 189 #[.agg #[.int .i64 m.id, .int .i64 m.state, .int .i64 m.load], .pointer (some ⟨B, 0, none⟩)] W fun e W' => e = .returned (.bool (G.podIs id m)) ∧ Below W.heap.size W W' := by
 have hB := World.block_lt_of_cell? W _ h
 simp only at hB
 go_enter Tryz.func189, Tryz.ntmps189
 go_wp2_with fail
 go_ret
 exact ⟨rfl, (Below.refl _ _).alloc (Nat.le_refl _) _⟩
theorem fleFind (S : Nat → Prop) (g : Nat) (v : Value) (l : List G.Pod) (last most id : Int) (w : World) (h : FAt 227 S w g v l last most) :
  Calls Tryz.prog 170 #[.pointer (some ⟨g, 0, none⟩), .int .i64 id] w (FleRead w (.int .i64 (G.idxOf (G.findP l id)))) := by
 have HX := J (G.At.made w 3 #[.int .i64 id])
 have HB := J ((Below.refl w.heap.size w).alloc (Nat.le_refl _) (.cells #[.int .i64 id] 3))
 have HH := J (h.alloc (.cells #[.int .i64 id] 3))
 have hc : w.cell? ⟨g, 0, none⟩ = some v := h.head.here rfl
 have hc2 : (w.alloc (.cells #[.int .i64 id] 3)).cell? ⟨g, 0, none⟩ = some v := HH.u.head.here rfl
 have hgw : g < w.heap.size := h.head.inside
 clear h
 go_enter Tryz.func170, Tryz.ntmps170
 go_wp2_with fail
 refine (fleF_index w.heap.size (G.podIs id) l v _ (HH.u.row.list G.Pod.enc_length) (by have := HH.u.small; omega) (fun m W hW => fleIs id _ m W ((hW.cell (p := ⟨w.heap.size, 0, none⟩) HX.u.inside).trans (HX.u.here (i := 0) rfl)))).mono ?_
 rintro e w2 ⟨rfl, hb2⟩
 have HB2 := J (HB.u.trans (hb2.mono HB.u.size))
 clear hb2 hc hc2
 go_wp2_with fail
 go_ret
 exact ⟨rfl, HB2.u⟩
def FleAllPost (w : World) (l : List G.Pod) (e : Ending) (w' : World) : Prop := ∃ v', e = .returned v' ∧ G.OwnRow (fun b => w.heap.size ≤ b) w' 177 3 v' l.length (l.flatMap G.Pod.enc) ∧ Below w.heap.size w w'
theorem fleAll (S : Nat → Prop) (g : Nat) (v : Value) (l : List G.Pod) (last most : Int) (w : World) (h : FAt 227 S w g v l last most) :
  Calls Tryz.prog 125 #[.pointer (some ⟨g, 0, none⟩)] w (FleAllPost w l) := by
 obtain ⟨A, cap, rfl, _, _, _⟩ := h.row.slice
 have hc := h.head.here (i := 0) rfl
 have HH := J h
 clear h
 go_enter Tryz.func125, Tryz.ntmps125
 go_wp2_with fail
 refine (fle_clone S _ _ _ _ HH.u.row (by have := HH.u.small; omega) fle_one).mono ?_
 rintro e w2 ⟨v', rfl, h2, hb2⟩
 have HF := J (show FleAllPost w l (.returned v') w2 from ⟨v', rfl, h2, hb2⟩)
 clear h2 hb2 hc
 go_wp2_with fail
 go_ret
 exact HF.u
open Go.RowKit
theorem idx_some (i : Nat) : G.idxOf (some i) = (i : Int) := rfl
theorem idx_none : G.idxOf none = -1 := rfl
theorem fleFewer (S : Nat → Prop) (g : Nat) (v : Value) (l : List G.Pod) (last most : Int) (w : World) (h : FAt 227 S w g v l last most) (hst : ∀ p ∈ l, 1 ≤ p.state ∧ p.state ≤ 4) (hlv : 0 < G.liveN l) :
  Calls Tryz.prog 184 #[.pointer (some ⟨g, 0, none⟩)] w (FlePost 227 S w g (G.fewerL l) last most) := by
 have hs := h.small
 have HH := J h
 have HV := J (G.victim hst hlv)
 clear h hst hlv
 go_enter Tryz.func184, Tryz.ntmps184
 go_wp2_with fail
 have HX := J (G.At.made w 3 #[.int .i64 1, .int .i64 2])
 have HB := J ((Below.refl w.heap.size w).alloc (Nat.le_refl _) (.cells #[.int .i64 1, .int .i64 2] 3))
 go_loopw [8] (fun i wr => ∃ k : Nat, k ≤ 2 ∧ i = .int .i64 k ∧ Hid ((1 ≤ k → G.best 1 G.gtId l = none) ∧ (2 ≤ k → G.best 2 G.gtId l = none)) ∧ Hid (G.At wr w.heap.size 3 #[.int .i64 1, .int .i64 2]) ∧ Hid (Below w.heap.size w wr)) (fun i _ => 2 - (intOf i).toNat)
 case atStart => exact ⟨0, by omega, rfl, J ⟨fun h => by omega, fun h => by omega⟩, HX, HB⟩
 clear HX HB
 obtain ⟨k, hk, rfl, HK, HX, HB⟩ := hrel
 have HF := J (HH.u.below HB.u)
 rcases (show k = 0 ∨ k = 1 ∨ k = 2 by omega) with rfl | rfl | rfl
 ·have x0 := HX.u.here (i := 0) rfl
  go_wp2_with fail
  refine (fleBest_gt S g v l last most 1 _ HF.u).mono ?_
  rintro e w1 ⟨rfl, hb1⟩
  have HB1 := J (HB.u.trans (hb1.mono HB.u.size))
  have HX1 := J (HX.u.below hb1 HX.u.inside)
  clear hb1 x0
  cases hq : G.best 1 G.gtId l with
  | some i =>
   rw [idx_some]
   obtain ⟨p, hp, _⟩ := G.best_at hq
   have HE := J (show G.fewerL l = l.eraseIdx i by unfold G.fewerL; rw [hq])
   have i0 : (0 : Int) ≤ (i : Int) := by omega
   clear hq
   go_wp2_with fail
   refine (fleGone S g v l last most i _ (HH.u.below HB1.u) (G.get_lt hp)).mono ?_
   rintro e w2 ⟨⟨x, rfl⟩, ⟨v2, h2⟩, c2⟩
   have HR := J (show FlePost 227 S w g (G.fewerL l) last most (.returned (.tuple #[])) w2 from ⟨⟨_, rfl⟩, ⟨_, by rw [HE.u]; exact h2⟩, (G.Chg.of_below HB1.u (Nat.le_refl _)).trans c2⟩)
   clear h2 c2 hp
   go_wp2_with fail
   go_end0
   exact HR.u
  | none =>
   rw [idx_none]
   have HQ := J hq
   clear hq
   go_wp2_with fail
   go_roundw
   case rel => exact ⟨1, by omega, by go_num, J ⟨fun _ => HQ.u, fun h => by omega⟩, HX1, HB1⟩
   case measure => simp [intOf]
 ·have x1 := HX.u.here (i := 1) rfl
  go_wp2_with fail
  refine (fleBest_gt S g v l last most 2 _ HF.u).mono ?_
  rintro e w1 ⟨rfl, hb1⟩
  have HB1 := J (HB.u.trans (hb1.mono HB.u.size))
  have HX1 := J (HX.u.below hb1 HX.u.inside)
  clear hb1 x1
  cases hq : G.best 2 G.gtId l with
  | some i =>
   rw [idx_some]
   obtain ⟨p, hp, _⟩ := G.best_at hq
   have HE := J (show G.fewerL l = l.eraseIdx i by unfold G.fewerL; rw [HK.u.1 (by decide), hq])
   have i0 : (0 : Int) ≤ (i : Int) := by omega
   clear hq
   go_wp2_with fail
   refine (fleGone S g v l last most i _ (HH.u.below HB1.u) (G.get_lt hp)).mono ?_
   rintro e w2 ⟨⟨x, rfl⟩, ⟨v2, h2⟩, c2⟩
   have HR := J (show FlePost 227 S w g (G.fewerL l) last most (.returned (.tuple #[])) w2 from ⟨⟨_, rfl⟩, ⟨_, by rw [HE.u]; exact h2⟩, (G.Chg.of_below HB1.u (Nat.le_refl _)).trans c2⟩)
   clear h2 c2 hp
   go_wp2_with fail
   go_end0
   exact HR.u
  | none =>
   rw [idx_none]
   have HQ := J hq
   clear hq
   go_wp2_with fail
   go_roundw
   case rel => exact ⟨2, by omega, by go_num, J ⟨fun _ => HK.u.1 (by decide), fun _ => HQ.u⟩, HX1, HB1⟩
   case measure => simp [intOf]
 obtain ⟨i, hi⟩ := HV.u (HK.u.1 (by decide)) (HK.u.2 (by decide))
 have HI := J hi
 clear hi
 go_wp2_with fail
 refine (fleBest_both S g v l last most 3 _ HF.u).mono ?_
 rintro e w1 ⟨rfl, hb1⟩
 have HB1 := J (HB.u.trans (hb1.mono HB.u.size))
 clear hb1
 rw [HI.u, idx_some]
 obtain ⟨p, hp, hst⟩ := G.best_at HI.u
 obtain ⟨b, cap, rfl, hS, _, _, hbl, c0, c1, c2, fz⟩ := (HH.u.below HB1.u).pod hp
 have hc : w1.cell? ⟨g, 0, none⟩ = some (.slice (some ⟨b, 0, none⟩) l.length cap) := (HH.u.below HB1.u).head.here rfl
 have hla : G.loadAt l i = p.load := by unfold G.loadAt; rw [hp]; rfl
 have hil := G.get_lt hp
 have i0 : (0 : Int) ≤ (i : Int) := by omega
 have i1 : (i : Int) < (l.length : Int) := by omega
 have f1 := fz (i * 3 + 1)
 have HP := J hp
 have HK1 := J (HK.u.1 (by decide)); have HK2 := J (HK.u.2 (by decide))
 clear hp hst c0 fz HK
 by_cases hz : p.load = 0
 ·have HE := J (show G.fewerL l = l.eraseIdx i by unfold G.fewerL; rw [HK1.u, HK2.u, HI.u]; simp only [hla, hz]; rfl)
  rw [hz] at c2
  clear hla hz
  go_wp2_with fail
  refine (fleGone S g _ l last most i _ (HH.u.below HB1.u) hil).mono ?_
  rintro e w2 ⟨⟨x, rfl⟩, ⟨v2, h2⟩, ch2⟩
  have HR := J (show FlePost 227 S w g (G.fewerL l) last most (.returned (.tuple #[])) w2 from ⟨⟨_, rfl⟩, ⟨_, by rw [HE.u]; exact h2⟩, (G.Chg.of_below HB1.u (Nat.le_refl _)).trans ch2⟩)
  clear h2 ch2
  go_wp2_with fail
  go_end0
  exact HR.u
 have HE := J (show G.fewerL l = l.set i { p with state := 4 } by unfold G.fewerL; rw [HK1.u, HK2.u, HI.u]; simp only [hla, hz]; unfold G.drainAt; rw [HP.u]; rfl)
 have hz2 : (p.load == 0) = false := by simp only [beq_eq_false_iff_ne]; exact hz
 have p1 := (HH.u.below HB1.u).put (by decide) (k := i) (j := 1) (r' := { p with state := 4 }) (u := .int .i64 4) HP.u (by decide) rfl
 have HR := J (show FlePost 227 S w g (G.fewerL l) last most (.returned (.tuple #[])) _ from ⟨⟨_, rfl⟩, ⟨_, by rw [HE.u]; exact p1.1⟩, (G.Chg.of_below HB1.u (Nat.le_refl _)).trans p1.2⟩)
 clear hla hz p1
 go_wp2_with fail
 go_end0
 exact HR.u
open Go.RowKit
section
variable {P : Program} {ops : Array Oper} {o : Oper} {a : Act} {w : World} {K : Act → World → Prop} {Q : Exit → Act → World → Prop} {E : Prop}
theorem hel_store (hgd : o.guard = none) (ty : TypeId) (x y : Operand) (ho : o.op = .store ty x y) (g : Nat) (cells : Array Value) (hx : a.eval x = .pointer (some ⟨g, 0, none⟩)) (hy : a.eval y = .agg cells)
  (t : TypeId) (old : Array Value) (hg : w.heap[g]? = some (.cells old t (0, 0))) (hi : (P.info? ty).map (·.size) = some cells.size) (hold : old.size = cells.size) (h1 : cells.all (·.oneCell') = true)
  (h : K (a.put o.dst undef) (w.setRow g cells)) : if Region.wanted o (yielded ops a.tmps) = true then Oper.wp P o a w K Q else E := by
 have hw : Region.wanted o (yielded ops a.tmps) = true := by simp [Region.wanted, hgd]
 rw [if_pos hw]
 exact wp_store_row ty x y ho g cells hx hy t old hg hi hold h1 h
end
theorem hel_load {P : Program} {ev : Operand → Value} {o : Oper} {ty t : TypeId} {x : Operand} (ho : o.op = .load ty x) {g : Nat} (hx : ev x = .pointer (some ⟨g, 0, none⟩)) {W : World} {cs : Array Value} (hg : G.At W g t cs) {d : TypeDesc}
  (hu : P.underlying ty = some d) (hd : (match d with | .struct _ | .array _ _ => true | _ => false) = true) (hi : (P.info? ty).map (·.size) = some cs.size) : (execOp ev o).run P W = .ok (.value (.agg cs)) W := by
 unfold execOp
 simp only [ho, hx, Instr.loadAt, Instr.sureAddr, Sem.run_bind, Sem.run_pure, Result.andThen_ok, run_loadVar_row W g t ty cs (0, 0) d hg hu hd hi]
theorem hel_set {w : World} {g : Nat} {t : TypeId} {old : Array Value} (h : G.At w g t old) (cs : Array Value) : G.At (w.setRow g cs) g t cs := setRow_heap w g old cs t (0, 0) h
theorem hel_row {B : Nat} {a w : World} (h : Below B a w) {g : Nat} (hg : B ≤ g) (cs : Array Value) : Below B a (w.setRow g cs) :=
 ⟨h.os, h.tape, h.output, by rw [setRow_size]; exact h.size, fun k hk => (setRow_other w g k cs (by omega)).trans (h.block k hk)⟩
theorem hel_dr {B : Nat} {w w' : World} (h : Below B w.drew w') : Below B w w' := ⟨h.os, h.tape, h.output, h.size, h.block⟩
end Go.Proofs.YtoidcbpcnikejaaGreatDoor
