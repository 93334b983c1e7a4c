/- The contract of (cron.field).text. -/
import Derived.Test.YtoidcbpcnikejaaGreatDoorDq15
set_option linter.unusedVariables false
set_option linter.unusedSimpArgs false
set_option maxRecDepth 100000
set_option maxHeartbeats 12800000
namespace Go.Proofs.YtoidcbpcnikejaaGreatDoor
open Go.RowKit
structure TxS (w0 W : World) (g : Nat) (c : Array Value) (B : Nat) (bx : Array Value) : Prop where
 row : G.At W g 92 c
 box : G.At W B 142 bx
 below : Below w0.heap.size w0 W
theorem TxS.next {w0 W W' : World} {g B : Nat} {c bx : Array Value} (h : TxS w0 W g c B bx) (hb : Below W.heap.size W W') : TxS w0 W' g c B bx :=
 ⟨h.row.below hb h.row.inside, h.box.below hb h.box.inside, h.below.trans (hb.mono h.below.size)⟩
theorem TxS.drew {w0 W : World} {g B : Nat} {c bx : Array Value} (h : TxS w0 W g c B bx) : TxS w0 W.drew g c B bx := ⟨h.row.drew, h.box.drew, h.below.drew⟩
def TextPost (k : Nat) (an : Option Nat) (s : Nat) (any : Bool) (w : World) (e : Ending) (w' : World) : Prop := e = .returned (.string (G.fieldTxt s (G.lim k).1 (G.lim k).2 any)) ∧ Below w.heap.size w w'
structure TxRun (w wr : World) (g : Nat) (c bx : Array Value) (s lo hi v : Nat) (x : Value) : Prop where
 st : TxS w wr g c w.heap.size bx
 row : G.OwnRow (fun b => w.heap.size ≤ b) wr 9 1 x (G.txtsUp s lo hi v).length ((G.txtsUp s lo hi v).map Value.string)
 edge : v ≤ hi → v = lo ∨ s.testBit (v - 1) = false
 fin : hi < v → G.txtsUp s lo hi v = G.txtsUp s lo hi (hi + 1)
def InRun (s hi v u : Nat) : Prop := u = v ∨ (v < u ∧ (∀ t, v ≤ t → t < u → s.testBit t = true) ∧ ∃ f, G.runEnd s hi f (u - 1) = G.runEnd s hi 64 v ∧ hi - (u - 1) ≤ f)
theorem InRun.next {s hi v u : Nat} (h : InRun s hi v u) (hh : hi ≤ 60) (hu : u ≤ hi) (hb : s.testBit u = true) : InRun s hi v (u + 1) := by
  rcases h with rfl | ⟨h1, h2, f, h3, h4⟩
  · exact .inr ⟨by omega, fun t a b => by obtain rfl : t = u := by omega
                                          exact hb, 64, rfl, by omega⟩
  · obtain ⟨g, rfl, e⟩ := G.runEnd_go h4 (show u - 1 < hi by omega) (by rw [show u - 1 + 1 = u by omega]; exact hb)
    rw [show u - 1 + 1 = u by omega] at e
    exact .inr ⟨by omega, fun t a b => by
      by_cases ht : t = u
      · subst ht; exact hb
      · exact h2 t a (by omega), g, by rw [show u + 1 - 1 = u by omega, ← e]; exact h3, by omega⟩
theorem in_end {s lo hi v u : Nat} (hh : hi ≤ 60) (v1 : lo ≤ v) (hv : v ≤ hi) (he : v = lo ∨ s.testBit (v - 1) = false) (h : InRun s hi v u) (hu : u ≤ hi + 1) (hstop : ¬ (u ≤ hi ∧ s.testBit u = true)) :
  (u = v → G.txtsUp s lo hi (u + 1) = G.txtsUp s lo hi v) ∧ (v < u → G.txtsUp s lo hi (u + 1) = G.txtsUp s lo hi v ++ [G.runTxt v (u - 1)]) ∧ (u + 1 ≤ hi → u + 1 = lo ∨ s.testBit (u + 1 - 1) = false) ∧ (hi < u + 1 → G.txtsUp s lo hi (u + 1) = G.txtsUp s lo hi (hi + 1)) := by
 have hbu : u ≤ hi → s.testBit u = false := fun h1 => by
  cases hb : s.testBit u with
  | false => rfl
  | true => exact absurd ⟨h1, hb⟩ hstop
 refine ⟨fun e => ?_, fun hlt => ?_, fun h1 => .inr (by rw [show u + 1 - 1 = u by omega]; exact hbu (by omega)), fun h1 => ?_⟩
 rotate_left 2
 ·by_cases e : u = hi
  ·rw [e]
  obtain rfl : u = hi + 1 := by omega
  rcases h with h | ⟨_, h2, _⟩
  ·omega
  refine G.txtsUp_no ?_
  unfold G.begins
  rw [show hi + 1 - 1 = hi from rfl, h2 hi hv (by omega), decide_eq_false (show ¬ hi + 1 = lo by omega)]; simp
 ·subst e
  exact G.txtsUp_no (by unfold G.begins; rw [hbu hv]; simp)
 rcases h with rfl | ⟨_, h2, f, h3, h4⟩
 ·exact absurd hlt (Nat.lt_irrefl _)
 have e : G.runEnd s hi 64 v = u - 1 := by
  rw [← h3]
  exact G.runEnd_stop (fun ⟨a, b⟩ => by rw [show u - 1 + 1 = u by omega] at b; rw [hbu (by omega)] at b; cases b)
 obtain ⟨d, rfl⟩ : ∃ d, u = v + d := ⟨u - v, by omega⟩
 rw [show v + d + 1 = v + 1 + d by omega, G.txtsUp_skip d v1 (fun t a b => .inr (h2 (t - 1) (by omega) (by omega))), G.txtsUp_yes v1, e]
 unfold G.begins
 rw [h2 v (Nat.le_refl _) hlt, Bool.true_and, Bool.or_eq_true]
 rcases he with he | he
 ·exact .inl (decide_eq_true he)
 exact .inr (by rw [he]; rfl)
theorem TxRun.app {w wr w5 : World} {g : Nat} {c bx : Array Value} {s lo hi v v' : Nat} {A : Option Addr} {cap b2 cap2 : Nat} {item : ByteArray} (H : TxRun w wr g c bx s lo hi v (.slice A (G.txtsUp s lo hi v).length cap))
  (e : G.txtsUp s lo hi v' = G.txtsUp s lo hi v ++ [item]) (he : v' ≤ hi → v' = lo ∨ s.testBit (v' - 1) = false) (hfi : hi < v' → G.txtsUp s lo hi v' = G.txtsUp s lo hi (hi + 1))
  (hown : w5.ownsRow 0 9 1 (.slice (some ⟨b2, 0, none⟩) ((G.txtsUp s lo hi v).length + 1) cap2) ((G.txtsUp s lo hi v).length + 1) ((G.txtsUp s lo hi v).map Value.string ++ [.string item]))
  (hg : (wr.alloc (.cells #[.string item] 9)).grownBy w5 (Value.slice A (G.txtsUp s lo hi v).length cap).ownBlock)
  (ho : (Value.slice A (G.txtsUp s lo hi v).length cap).ownBlock = some b2 ∨ b2 = wr.heap.size + 1) (hlt2 : b2 < w5.heap.size) :
  TxRun w w5 g c bx s lo hi v' (.slice (some ⟨b2, 0, none⟩) ((G.txtsUp s lo hi v).length + 1) cap2) := by
 have HO := H.row.alloc (.cells #[.string item] 9)
 have HS := H.st.next ((Below.refl _ _).alloc (Nat.le_refl _) (.cells #[.string item] 9))
 have a1 := HO.apartAt HS.row (by decide)
 have a2 := HO.apartAt HS.box (by decide)
 obtain ⟨r1, r2⟩ := HO.app hown hg (ho.imp id (fun e => e.trans (by simp))) hlt2
 refine ⟨⟨HS.row.grown hg (fun e => a1 _ e rfl), HS.box.grown hg (fun e => a2 _ e rfl), HS.below.trans (r2.below HS.below.size (fun b hb h => by omega))⟩, ?_, he, hfi⟩
 rw [e, List.length_append, List.map_append]
 exact r1.mono (fun b _ hb => by
  have := HS.below.size
  rcases hb with hb | hb
  ·exact hb
  omega)
theorem TxRun.still {w wr : World} {g : Nat} {c bx : Array Value} {s lo hi v v' : Nat} {x : Value} (H : TxRun w wr g c bx s lo hi v x) (e : G.txtsUp s lo hi v' = G.txtsUp s lo hi v) (he : v' ≤ hi → v' = lo ∨ s.testBit (v' - 1) = false) (hfi : hi < v' → G.txtsUp s lo hi v' = G.txtsUp s lo hi (hi + 1)) : TxRun w wr g c bx s lo hi v' x :=
 ⟨H.st, by rw [e]; exact H.row, he, hfi⟩
theorem itoaC (i : Nat) (hi : i < 100) (w : World) : Calls Tryz.prog 26 #[.int .i64 i] w fun e w' => e = .returned (.string (G.decB i)) ∧ w = w' := (Tryz.strconv_Itoa_small i hi w).mono fun _ _ ⟨a, b⟩ => ⟨a, b.symm⟩
theorem cronText (k g s : Nat) (an : Option Nat) (any : Bool) (c : Array Value) (w : World)
  (hA : G.At w g 92 c) (hs : Word s) (hc : c[k]? = some (.int .u64 (s : Int))) (hn : an = none → any = true) (ha : ∀ j, an = some j → c[j]? = some (.bool any)) :
  Calls Tryz.prog 124 #[.agg (fieldV g k an)] w (TextPost k an s any w) := by
 have hB := G.At.made w 142 (fieldV g k an)
 have HR := J (show TxS w (w.alloc (.cells (fieldV g k an) 142)) g c w.heap.size (fieldV g k an) from ⟨hA.alloc _, hB, (Below.refl _ _).alloc (Nat.le_refl _) _⟩)
 have HW := J hs
 obtain ⟨it, hit, hz0, hz1, hz2⟩ := info_split info_text
 have HC := J hc
 clear hs hB hA hc
 obtain ⟨lo, hi, l1, l2, HLim⟩ : ∃ lo hi, lo ≤ hi ∧ hi ≤ 60 ∧ Hid (G.lim k = (lo, hi)) := ⟨_, _, (G.lim_le k).1, (G.lim_le k).2, J rfl⟩
 go_enter Tryz.func124, Tryz.ntmps124
 go_upto_region 1 with fail
 generalize w.alloc (.cells (fieldV g k an) 142) = W at HR ⊢
 go_cut [23] (fun x wy => x = .bool (decide (s = G.allN lo hi) && any) ∧ Hid (TxS w wy g c w.heap.size (fieldV g k an)))
 case first =>
  have x0 : W.cell? ⟨w.heap.size, 0, none⟩ = some (.pointer (some ⟨g, k, none⟩)) := HR.u.box.here (i := 0) rfl
  have x1 : W.cell? ⟨w.heap.size, 1, none⟩ = some (.int .i64 (lo : Nat)) := by have x : W.cell? ⟨w.heap.size, 1, none⟩ = some (.int .i64 ((G.lim k).1 : Nat)) := HR.u.box.here (i := 1) rfl; rw [HLim.u] at x; exact x
  have x2 : W.cell? ⟨w.heap.size, 2, none⟩ = some (.int .i64 (hi : Nat)) := by have x : W.cell? ⟨w.heap.size, 2, none⟩ = some (.int .i64 ((G.lim k).2 : Nat)) := HR.u.box.here (i := 2) rfl; rw [HLim.u] at x; exact x
  have x3 : W.cell? ⟨w.heap.size, 3, none⟩ = some (anyV g an) := HR.u.box.here (i := 3) rfl
  have x4 : W.cell? ⟨g, k, none⟩ = some (.int .u64 (s : Int)) := HR.u.row.here HC.u
  by_cases he : s = G.allN lo hi
  ·have he2 : ((s : Int) == ((G.allN lo hi : Nat) : Int)) = true := by rw [beq_iff_eq, he]
   have HE := J he
   clear he
   cases an with
   | none =>
    obtain rfl := hn rfl
    have x5 := x4
    simp only [anyV] at x3
    have hall := J (fun W => all_keep lo hi (.pointer (some ⟨g, k, none⟩)) (.pointer none) W l1 l2 ⟨w.heap.size, 0, none⟩ ⟨w.heap.size, 1, none⟩ ⟨w.heap.size, 2, none⟩ ⟨w.heap.size, 3, none⟩ ⟨g, k, none⟩ ⟨g, k, none⟩)
    have HS0 := J (show RegS w.heap.size g k s lo hi (.pointer none) k (.int .u64 (s : Int)) W.drew from ⟨x0, x1, x2, x3, x4, x5⟩)
    clear x0 x1 x2 x3 x4 x5
    have hS : (RegS w.heap.size g k s lo hi (.pointer none) k (.int .u64 (s : Int))) W.drew := HS0.u
    refine wp_region_held_drew (S := (RegS w.heap.size g k s lo hi (.pointer none) k (.int .u64 (s : Int)))) (by kernel_rfl) hS (fun _ => ?_)
    change wpAnyH _ _ _ _ _ 18 #[false, false, false, false, false, false, false, false, false, false, false, false, false, false, false, false, false, false] _ (World.drew _)
    refine tq 0 (.pointer (some ⟨w.heap.size, 0, none⟩)) rfl (fun W hW => ?_) hS ?_
    ·obtain ⟨z0, z1, z2, z3, z4, z5⟩ := hW; go_simp
    simp only [Act.put, tkS]
    refine tq 1 (.pointer (some ⟨g, k, none⟩)) rfl (fun W hW => ?_) hS ?_
    ·obtain ⟨z0, z1, z2, z3, z4, z5⟩ := hW; go_simp
    simp only [Act.put, tkS]
    refine tq 2 (.pointer (some ⟨g, k, none⟩)) rfl (fun W hW => ?_) hS ?_
    ·obtain ⟨z0, z1, z2, z3, z4, z5⟩ := hW; go_simp
    simp only [Act.put, tkS]
    refine tq 3 (.int .u64 (s : Int)) rfl (fun W hW => ?_) hS ?_
    ·obtain ⟨z0, z1, z2, z3, z4, z5⟩ := hW; go_simp
    simp only [Act.put, tkS]
    refine tq 4 (.agg #[.pointer (some ⟨g, k, none⟩), .int .i64 lo, .int .i64 hi, .pointer none]) rfl (fun W hW => ?_) hS ?_
    ·obtain ⟨z0, z1, z2, z3, z4, z5⟩ := hW; go_simp
    simp only [Act.put, tkS]
    refine wpAnyH_ready (rs := [5]) (by kernel_rfl) (by simp) (AllReadyH.cons rfl (fun K hK => ?_) AllReadyH.nil)
    go_simp
    refine (hall.u _ _ _ _ _ _ _ hS.1 hS.2.1 hS.2.2.1 hS.2.2.2.1 hS.2.2.2.2.1 hS.2.2.2.2.2).mono ?_
    rintro e w2 ⟨rfl, y0, y1, y2, y3, y4, y5, hbb2⟩
    have hS2 : (RegS w.heap.size g k s lo hi (.pointer none) k (.int .u64 (s : Int))) w2 := ⟨y0, y1, y2, y3, y4, y5⟩
    clear y0 y1 y2 y3 y4 y5
    go_wp2_with fail
    refine hK.out _ _ hS2 (fun _ => ?_)
    clear hK K
    refine tq 6 (.bool true) rfl (fun W hW => ?_) hS2 ?_
    ·obtain ⟨z0, z1, z2, z3, z4, z5⟩ := hW; go_simp
    simp only [Act.put, tkS]
    refine tq 7 (.bool true) rfl (fun W hW => ?_) hS2 ?_
    ·obtain ⟨z0, z1, z2, z3, z4, z5⟩ := hW; go_simp
    simp only [Act.put, tkS]
    refine tq 8 (.pointer (some ⟨w.heap.size, 3, none⟩)) rfl (fun W hW => ?_) hS2 ?_
    ·obtain ⟨z0, z1, z2, z3, z4, z5⟩ := hW; go_simp
    simp only [Act.put, tkS]
    refine tq 9 (.pointer none) rfl (fun W hW => ?_) hS2 ?_
    ·obtain ⟨z0, z1, z2, z3, z4, z5⟩ := hW; go_simp
    simp only [Act.put, tkS]
    refine tq 10 (.bool true) rfl (fun W hW => ?_) hS2 ?_
    ·obtain ⟨z0, z1, z2, z3, z4, z5⟩ := hW; go_simp
    simp only [Act.put, tkS]
    refine tq 11 (.bool true) rfl (fun W hW => ?_) hS2 ?_
    ·obtain ⟨z0, z1, z2, z3, z4, z5⟩ := hW; go_simp
    simp only [Act.put, tkS]
    refine tk 12 undef rfl (.inr ⟨by rfl, rfl⟩) hS2 ?_
    simp only [Act.put, tkS]
    refine tk 13 undef rfl (.inr ⟨by rfl, rfl⟩) hS2 ?_
    simp only [Act.put, tkS]
    refine tk 14 undef rfl (.inr ⟨by rfl, rfl⟩) hS2 ?_
    simp only [Act.put, tkS]
    refine tk 15 undef rfl (.inr ⟨by rfl, rfl⟩) hS2 ?_
    simp only [Act.put, tkS]
    refine tq 16 (.bool true) rfl (fun W hW => ?_) hS2 ?_
    ·obtain ⟨z0, z1, z2, z3, z4, z5⟩ := hW; go_simp
    simp only [Act.put, tkS]
    refine tq 17 (.bool true) rfl (fun W hW => ?_) hS2 ?_
    ·obtain ⟨z0, z1, z2, z3, z4, z5⟩ := hW; go_simp
    simp only [Act.put, tkS]
    refine wpAnyH_done (by kernel_rfl) ?_ _
    have HX := J (HR.u.drew.next hbb2)
    clear hS hS2 hbb2 HS0 hall
    go_wp2_with fail
    go_meet
    exact ⟨by rw [decide_eq_true HE.u]; rfl, HX⟩
   | some j =>
    have x5 : W.cell? ⟨g, j, none⟩ = some (.bool any) := HR.u.row.here (ha j rfl)
    simp only [anyV] at x3
    have hall := J (fun W => all_keep lo hi (.pointer (some ⟨g, k, none⟩)) (.pointer (some ⟨g, j, none⟩)) W l1 l2 ⟨w.heap.size, 0, none⟩ ⟨w.heap.size, 1, none⟩ ⟨w.heap.size, 2, none⟩ ⟨w.heap.size, 3, none⟩ ⟨g, k, none⟩ ⟨g, j, none⟩)
    have HS0 := J (show RegS w.heap.size g k s lo hi (.pointer (some ⟨g, j, none⟩)) j (.bool any) W.drew from ⟨x0, x1, x2, x3, x4, x5⟩)
    clear x0 x1 x2 x3 x4 x5
    have hS : (RegS w.heap.size g k s lo hi (.pointer (some ⟨g, j, none⟩)) j (.bool any)) W.drew := HS0.u
    refine wp_region_held_drew (S := (RegS w.heap.size g k s lo hi (.pointer (some ⟨g, j, none⟩)) j (.bool any))) (by kernel_rfl) hS (fun _ => ?_)
    change wpAnyH _ _ _ _ _ 18 #[false, false, false, false, false, false, false, false, false, false, false, false, false, false, false, false, false, false] _ (World.drew _)
    refine tq 0 (.pointer (some ⟨w.heap.size, 0, none⟩)) rfl (fun W hW => ?_) hS ?_
    ·obtain ⟨z0, z1, z2, z3, z4, z5⟩ := hW; go_simp
    simp only [Act.put, tkS]
    refine tq 1 (.pointer (some ⟨g, k, none⟩)) rfl (fun W hW => ?_) hS ?_
    ·obtain ⟨z0, z1, z2, z3, z4, z5⟩ := hW; go_simp
    simp only [Act.put, tkS]
    refine tq 2 (.pointer (some ⟨g, k, none⟩)) rfl (fun W hW => ?_) hS ?_
    ·obtain ⟨z0, z1, z2, z3, z4, z5⟩ := hW; go_simp
    simp only [Act.put, tkS]
    refine tq 3 (.int .u64 (s : Int)) rfl (fun W hW => ?_) hS ?_
    ·obtain ⟨z0, z1, z2, z3, z4, z5⟩ := hW; go_simp
    simp only [Act.put, tkS]
    refine tq 4 (.agg #[.pointer (some ⟨g, k, none⟩), .int .i64 lo, .int .i64 hi, .pointer (some ⟨g, j, none⟩)]) rfl (fun W hW => ?_) hS ?_
    ·obtain ⟨z0, z1, z2, z3, z4, z5⟩ := hW; go_simp
    simp only [Act.put, tkS]
    refine wpAnyH_ready (rs := [5]) (by kernel_rfl) (by simp) (AllReadyH.cons rfl (fun K hK => ?_) AllReadyH.nil)
    go_simp
    refine (hall.u _ _ _ _ _ _ _ hS.1 hS.2.1 hS.2.2.1 hS.2.2.2.1 hS.2.2.2.2.1 hS.2.2.2.2.2).mono ?_
    rintro e w2 ⟨rfl, y0, y1, y2, y3, y4, y5, hbb2⟩
    have hS2 : (RegS w.heap.size g k s lo hi (.pointer (some ⟨g, j, none⟩)) j (.bool any)) w2 := ⟨y0, y1, y2, y3, y4, y5⟩
    clear y0 y1 y2 y3 y4 y5
    go_wp2_with fail
    refine hK.out _ _ hS2 (fun _ => ?_)
    clear hK K
    refine tq 6 (.bool true) rfl (fun W hW => ?_) hS2 ?_
    ·obtain ⟨z0, z1, z2, z3, z4, z5⟩ := hW; go_simp
    simp only [Act.put, tkS]
    refine tq 7 (.bool true) rfl (fun W hW => ?_) hS2 ?_
    ·obtain ⟨z0, z1, z2, z3, z4, z5⟩ := hW; go_simp
    simp only [Act.put, tkS]
    refine tq 8 (.pointer (some ⟨w.heap.size, 3, none⟩)) rfl (fun W hW => ?_) hS2 ?_
    ·obtain ⟨z0, z1, z2, z3, z4, z5⟩ := hW; go_simp
    simp only [Act.put, tkS]
    refine tq 9 (.pointer (some ⟨g, j, none⟩)) rfl (fun W hW => ?_) hS2 ?_
    ·obtain ⟨z0, z1, z2, z3, z4, z5⟩ := hW; go_simp
    simp only [Act.put, tkS]
    refine tq 10 (.bool false) rfl (fun W hW => ?_) hS2 ?_
    ·obtain ⟨z0, z1, z2, z3, z4, z5⟩ := hW; go_simp
    simp only [Act.put, tkS]
    refine tq 11 (.bool false) rfl (fun W hW => ?_) hS2 ?_
    ·obtain ⟨z0, z1, z2, z3, z4, z5⟩ := hW; go_simp
    simp only [Act.put, tkS]
    refine tq 12 (.pointer (some ⟨w.heap.size, 3, none⟩)) rfl (fun W hW => ?_) hS2 ?_
    ·obtain ⟨z0, z1, z2, z3, z4, z5⟩ := hW; go_simp
    simp only [Act.put, tkS]
    refine tq 13 (.pointer (some ⟨g, j, none⟩)) rfl (fun W hW => ?_) hS2 ?_
    ·obtain ⟨z0, z1, z2, z3, z4, z5⟩ := hW; go_simp
    simp only [Act.put, tkS]
    refine tq 14 (.pointer (some ⟨g, j, none⟩)) rfl (fun W hW => ?_) hS2 ?_
    ·obtain ⟨z0, z1, z2, z3, z4, z5⟩ := hW; go_simp
    simp only [Act.put, tkS]
    refine tq 15 (.bool any) rfl (fun W hW => ?_) hS2 ?_
    ·obtain ⟨z0, z1, z2, z3, z4, z5⟩ := hW; go_simp
    simp only [Act.put, tkS]
    refine tq 16 (.bool any) rfl (fun W hW => ?_) hS2 ?_
    ·obtain ⟨z0, z1, z2, z3, z4, z5⟩ := hW; go_simp
    simp only [Act.put, tkS]
    refine tq 17 (.bool any) rfl (fun W hW => ?_) hS2 ?_
    ·obtain ⟨z0, z1, z2, z3, z4, z5⟩ := hW; go_simp
    simp only [Act.put, tkS]
    refine wpAnyH_done (by kernel_rfl) ?_ _
    have HX := J (HR.u.drew.next hbb2)
    clear hS hS2 hbb2 HS0 hall
    go_wp2_with fail
    go_meet
    exact ⟨by rw [decide_eq_true HE.u]; rfl, HX⟩
  have he2 : ((s : Int) == ((G.allN lo hi : Nat) : Int)) = false := by rw [beq_eq_false_iff_ne]; exact fun e => he (by exact_mod_cast e)
  have HE := J he
  clear he
  obtain ⟨P0, hP⟩ : ∃ P0, anyV g an = .pointer P0 := by cases an <;> exact ⟨_, rfl⟩
  rw [hP] at x3
  have x5 := x4
  have hall := J (fun W => all_keep lo hi (.pointer (some ⟨g, k, none⟩)) (.pointer P0) W l1 l2 ⟨w.heap.size, 0, none⟩ ⟨w.heap.size, 1, none⟩ ⟨w.heap.size, 2, none⟩ ⟨w.heap.size, 3, none⟩ ⟨g, k, none⟩ ⟨g, k, none⟩)
  have HS0 := J (show RegS w.heap.size g k s lo hi (.pointer P0) k (.int .u64 (s : Int)) W.drew from ⟨x0, x1, x2, x3, x4, x5⟩)
  clear x0 x1 x2 x3 x4 x5
  have hS : (RegS w.heap.size g k s lo hi (.pointer P0) k (.int .u64 (s : Int))) W.drew := HS0.u
  refine wp_region_held_drew (S := (RegS w.heap.size g k s lo hi (.pointer P0) k (.int .u64 (s : Int)))) (by kernel_rfl) hS (fun _ => ?_)
  change wpAnyH _ _ _ _ _ 18 #[false, false, false, false, false, false, false, false, false, false, false, false, false, false, false, false, false, false] _ (World.drew _)
  refine tq 0 (.pointer (some ⟨w.heap.size, 0, none⟩)) rfl (fun W hW => ?_) hS ?_
  ·obtain ⟨z0, z1, z2, z3, z4, z5⟩ := hW; go_simp
  simp only [Act.put, tkS]
  refine tq 1 (.pointer (some ⟨g, k, none⟩)) rfl (fun W hW => ?_) hS ?_
  ·obtain ⟨z0, z1, z2, z3, z4, z5⟩ := hW; go_simp
  simp only [Act.put, tkS]
  refine tq 2 (.pointer (some ⟨g, k, none⟩)) rfl (fun W hW => ?_) hS ?_
  ·obtain ⟨z0, z1, z2, z3, z4, z5⟩ := hW; go_simp
  simp only [Act.put, tkS]
  refine tq 3 (.int .u64 (s : Int)) rfl (fun W hW => ?_) hS ?_
  ·obtain ⟨z0, z1, z2, z3, z4, z5⟩ := hW; go_simp
  simp only [Act.put, tkS]
  refine tq 4 (.agg #[.pointer (some ⟨g, k, none⟩), .int .i64 lo, .int .i64 hi, .pointer P0]) rfl (fun W hW => ?_) hS ?_
  ·obtain ⟨z0, z1, z2, z3, z4, z5⟩ := hW; go_simp
  simp only [Act.put, tkS]
  refine wpAnyH_ready (rs := [5]) (by kernel_rfl) (by simp) (AllReadyH.cons rfl (fun K hK => ?_) AllReadyH.nil)
  go_simp
  refine (hall.u _ _ _ _ _ _ _ hS.1 hS.2.1 hS.2.2.1 hS.2.2.2.1 hS.2.2.2.2.1 hS.2.2.2.2.2).mono ?_
  rintro e w2 ⟨rfl, y0, y1, y2, y3, y4, y5, hbb2⟩
  have hS2 : (RegS w.heap.size g k s lo hi (.pointer P0) k (.int .u64 (s : Int))) w2 := ⟨y0, y1, y2, y3, y4, y5⟩
  clear y0 y1 y2 y3 y4 y5
  go_wp2_with fail
  refine hK.out _ _ hS2 (fun _ => ?_)
  clear hK K
  refine tq 6 (.bool false) rfl (fun W hW => ?_) hS2 ?_
  ·obtain ⟨z0, z1, z2, z3, z4, z5⟩ := hW; go_simp
  simp only [Act.put, tkS]
  refine tq 7 (.bool false) rfl (fun W hW => ?_) hS2 ?_
  ·obtain ⟨z0, z1, z2, z3, z4, z5⟩ := hW; go_simp
  simp only [Act.put, tkS]
  refine tk 8 undef rfl (.inr ⟨by rfl, rfl⟩) hS2 ?_
  simp only [Act.put, tkS]
  refine tk 9 undef rfl (.inr ⟨by rfl, rfl⟩) hS2 ?_
  simp only [Act.put, tkS]
  refine tk 10 undef rfl (.inr ⟨by rfl, rfl⟩) hS2 ?_
  simp only [Act.put, tkS]
  refine tk 11 undef rfl (.inr ⟨by rfl, rfl⟩) hS2 ?_
  simp only [Act.put, tkS]
  refine tk 12 undef rfl (.inr ⟨by rfl, rfl⟩) hS2 ?_
  simp only [Act.put, tkS]
  refine tk 13 undef rfl (.inr ⟨by rfl, rfl⟩) hS2 ?_
  simp only [Act.put, tkS]
  refine tk 14 undef rfl (.inr ⟨by rfl, rfl⟩) hS2 ?_
  simp only [Act.put, tkS]
  refine tk 15 undef rfl (.inr ⟨by rfl, rfl⟩) hS2 ?_
  simp only [Act.put, tkS]
  refine tk 16 undef rfl (.inr ⟨by rfl, rfl⟩) hS2 ?_
  simp only [Act.put, tkS]
  refine tq 17 (.bool false) rfl (fun W hW => ?_) hS2 ?_
  ·obtain ⟨z0, z1, z2, z3, z4, z5⟩ := hW; go_simp
  simp only [Act.put, tkS]
  refine wpAnyH_done (by kernel_rfl) ?_ _
  have HX := J (HR.u.drew.next hbb2)
  clear hS hS2 hbb2 HS0 hall
  go_wp2_with fail
  go_meet
  exact ⟨by rw [decide_eq_false HE.u]; rfl, HX⟩
 obtain ⟨rfl, HX⟩ := hcut
 clear HR
 by_cases hF : s = G.allN lo hi ∧ any = true
 ·have HF := J (show TextPost k an s any w (.returned (.string ⟨#[42]⟩)) wc from ⟨by unfold G.fieldTxt; rw [HLim.u]; show _ = Ending.returned (.string (if s = G.allN lo hi ∧ any = true then G.star else _)); rw [if_pos hF]; rfl, HX.u.below⟩)
  rw [show (decide (s = G.allN lo hi) && any) = true by rw [decide_eq_true hF.1, hF.2]; rfl]
  clear hF
  go_wp2_with fail
  go_ret
  exact HF.u
 have HFin := J (fun (W' : World) (hb : Below w.heap.size w W') => (show TextPost k an s any w (.returned (.string (G.joinB 44 (G.txtsUp s lo hi (hi + 1))))) W' from ⟨by unfold G.fieldTxt; rw [HLim.u]; show _ = Ending.returned (.string (if s = G.allN lo hi ∧ any = true then G.star else _)); rw [if_neg hF], hb⟩))
 rw [show (decide (s = G.allN lo hi) && any) = false by
  cases any with
  | false => simp
  | true => rw [decide_eq_false (fun e => hF ⟨e, rfl⟩)]; rfl]
 clear hF
 have x1 : wc.cell? ⟨w.heap.size, 1, none⟩ = some (.int .i64 (lo : Nat)) := by have x : wc.cell? ⟨w.heap.size, 1, none⟩ = some (.int .i64 ((G.lim k).1 : Nat)) := HX.u.box.here (i := 1) rfl; rw [HLim.u] at x; exact x
 have HRun := J (show TxRun w wc g c (fieldV g k an) s lo hi lo (.slice none 0 0) from ⟨HX.u, by rw [G.txtsUp_lo]; exact G.OwnRow.nil _ _ _ _, fun _ => .inl rfl, fun h => absurd h (by omega)⟩)
 go_wp2_with fail
 go_loopw [3, 4] (fun x y wr => ∃ v : Nat, y = .int .i64 (v : Int) ∧ lo ≤ v ∧ v ≤ hi + 2 ∧ Hid (TxRun w wr g c (fieldV g k an) s lo hi v x)) (fun _ y _ => hi + 3 - (intOf y).toNat)
 case atStart => exact ⟨lo, rfl, Nat.le_refl _, by omega, HRun⟩
 clear HRun HX x1
 obtain ⟨v, rfl, v1, v2, HRun⟩ := hrel
 have x0 : wr.cell? ⟨w.heap.size, 0, none⟩ = some (.pointer (some ⟨g, k, none⟩)) := HRun.u.st.box.here (i := 0) rfl
 have x2 : wr.cell? ⟨w.heap.size, 2, none⟩ = some (.int .i64 (hi : Nat)) := by have x : wr.cell? ⟨w.heap.size, 2, none⟩ = some (.int .i64 ((G.lim k).2 : Nat)) := HRun.u.st.box.here (i := 2) rfl; rw [HLim.u] at x; exact x
 have x4 : wr.cell? ⟨g, k, none⟩ = some (.int .u64 (s : Int)) := HRun.u.st.row.here HC.u
 obtain ⟨A, cap, rfl, hcA, hcB, _⟩ := HRun.u.row.slice
 have htl := G.txtsUp_len s lo hi v
 have HM3 := J (show (G.txtsUp s lo hi v).length + 1 ≤ maxLen by simp only [maxLen]; omega)
 have HM4 := J (show ((G.txtsUp s lo hi v).length + 1) * 16 ≤ 140737488355328 by omega)
 have v0 : (0 : Int) ≤ (v : Int) := by omega
 have hi60 : (hi : Int) ≤ 60 := by omega
 have v60 : (v : Int) ≤ 62 := by omega
 by_cases hlt : v ≤ hi
 ·have i1 : (v : Int) ≤ (hi : Int) := by omega
  have HI := J (show InRun s hi v v from .inl rfl)
  go_wp2_with fail
  go_loop [4] (fun y => ∃ u : Nat, y = .int .i64 (u : Int) ∧ v ≤ u ∧ u ≤ hi + 1 ∧ Hid (InRun s hi v u)) (fun y => hi + 2 - (intOf y).toNat)
  case atStart => exact ⟨v, rfl, Nat.le_refl _, by omega, HI⟩
  clear HI
  obtain ⟨u, rfl, u1, u2, HI⟩ := hrel
  have u0 : (0 : Int) ≤ (u : Int) := by omega
  have u60 : (u : Int) ≤ 61 := by omega
  have hsb := G.shift_bit s u HW.u
  by_cases hgo : u ≤ hi ∧ s.testBit u = true
  ·obtain ⟨g1, g2⟩ := hgo
   have hb : (bits .and .u64 ((s : Int) / 2 ^ u) 1 == 1) = true := by rw [hsb]; exact g2
   have i2 : (u : Int) ≤ (hi : Int) := by omega
   have HN := J (HI.u.next l2 g1 g2)
   have G1 := J g1
   clear hsb HI g2 g1
   go_wp2_with fail
   go_round
   case rel => exact ⟨u + 1, by go_num, by omega, by have := G1.u; omega, HN⟩
   case measure => have := G1.u; simp [intOf]; omega
  obtain ⟨n1, n2, n3, n4⟩ := in_end l2 v1 hlt (HRun.u.edge hlt) HI.u u2 hgo
  have N1 := J n1; have N2 := J n2; have N3 := J n3; have N4 := J n4
  clear n1 n2 n3 n4 HI
  by_cases huh : u ≤ hi
  ·have hb : (bits .and .u64 ((s : Int) / 2 ^ u) 1 == 1) = false := by
    rw [hsb]
    cases hb : s.testBit u with
    | false => rfl
    | true => exact absurd ⟨huh, hb⟩ hgo
   have i2 : (u : Int) ≤ (hi : Int) := by omega
   clear hsb hgo huh
   by_cases huv : u = v
   ·subst huv
    have HN := J (HRun.u.still (N1.u rfl) N3.u N4.u)
    clear HRun N1 N2 N3
    go_wp2_with fail
    go_roundw
    case rel => exact ⟨u + 1, by go_num, by omega, by omega, HN⟩
    case measure => simp [intOf]; omega
   have hvu : v < u := by omega
   by_cases hu1 : u = v + 1
   ·subst hu1
    have hd : ((v + 1 : Nat) : Int) - (v : Int) = 1 := by omega
    rw [show v + 1 - 1 = v from rfl, G.runTxt_one] at N2
    clear huv
    go_wp2_with fail
    refine (itoaC v (by omega) _).mono ?_
    rintro e w4 ⟨rfl, rfl⟩
    have HOx := J (HRun.u.row.alloc (.cells #[.string (G.decB v)] 9))
    go_wp2_with (at_builtin; go_loud (refine wpList_append_lies _ (by rfl) (.tmp 66) (.tmp 69) 23 (by rfl) 0 9 it (.string ByteArray.empty) 1 16 Tryz.underlying23 hit hz0 hz1 hz2 rfl (by decide) (.slice A (G.txtsUp s lo hi v).length cap) _ _ rfl HOx.u.owns ⟨wr.heap.size, 0, none⟩ 1 1 [.string (G.decB v)] rfl rfl (G.new_one rfl) (by simp [Value.oneCell']) (by decide) HM3.u HM4.u (Nat.zero_le _) _ rfl ?_))
    intro b2 cap2 w5 hown hg ho hlt2
    have HN := J (HRun.u.app (N2.u hvu) N3.u N4.u hown hg ho hlt2)
    have hlen : (G.txtsUp s lo hi ((v + 1) + 1)).length = (G.txtsUp s lo hi v).length + 1 := by rw [N2.u hvu, List.length_append]; rfl
    clear hown hg ho hlt2 HOx
    go_wp2_with fail
    go_roundw
    case rel => exact ⟨(v + 1) + 1, by go_num, by omega, by omega, HN⟩
    case measure => simp [intOf]; omega
   have hd0 : ((u : Int) - (v : Int)) ≠ 0 := by omega
   have hd1 : ((u : Int) - (v : Int)) ≠ 1 := by omega
   have hd2 : (0 : Int) ≤ (u : Int) - (v : Int) := by omega
   have hd3 : (u : Int) - 1 = ((u - 1 : Nat) : Int) := by omega
   rw [G.runTxt_two (show u - 1 ≠ v by omega)] at N2
   have sz1 := G.decB_size (show v < 100 by omega)
   have sz2 := G.decB_size (show u - 1 < 100 by omega)
   clear huv
   go_wp2_with fail
   refine (itoaC v (by omega) _).mono ?_
   rintro e w4 ⟨rfl, rfl⟩
   have hsz1 : ((G.decB v).size : Int) ≤ 8388608 := by omega
   have hsz3 : (G.decB v).size + (⟨#[45]⟩ : ByteArray).size ≤ 9223372036854775807 := by have : (⟨#[45]⟩ : ByteArray).size = 1 := rfl; omega
   go_wp2_with fail
   refine (itoaC (u - 1) (by omega) _).mono ?_
   rintro e w4 ⟨rfl, rfl⟩
   have hsz4 : (G.decB v ++ ⟨#[45]⟩).size + (G.decB (u - 1)).size ≤ 9223372036854775807 := by rw [ByteArray.size_append]; have : (⟨#[45]⟩ : ByteArray).size = 1 := rfl; omega
   have HOx := J (HRun.u.row.alloc (.cells #[.string (G.decB v ++ ⟨#[45]⟩ ++ G.decB (u - 1))] 9))
   go_wp2_with (at_builtin; go_loud (refine wpList_append_lies _ (by rfl) (.tmp 52) (.tmp 60) 23 (by rfl) 0 9 it (.string ByteArray.empty) 1 16 Tryz.underlying23 hit hz0 hz1 hz2 rfl (by decide) (.slice A (G.txtsUp s lo hi v).length cap) _ _ rfl HOx.u.owns ⟨wr.heap.size, 0, none⟩ 1 1 [.string (G.decB v ++ ⟨#[45]⟩ ++ G.decB (u - 1))] rfl rfl (G.new_one rfl) (by simp [Value.oneCell']) (by decide) HM3.u HM4.u (Nat.zero_le _) _ rfl ?_))
   intro b2 cap2 w5 hown hg ho hlt2
   have HN := J (HRun.u.app (N2.u hvu) N3.u N4.u hown hg ho hlt2)
   have hlen : (G.txtsUp s lo hi (u + 1)).length = (G.txtsUp s lo hi v).length + 1 := by rw [N2.u hvu, List.length_append]; rfl
   clear hown hg ho hlt2 HOx
   go_wp2_with fail
   go_roundw
   case rel => exact ⟨u + 1, by go_num, by omega, by omega, HN⟩
   case measure => simp [intOf]; omega
  have i2 : (hi : Int) < (u : Int) := by omega
  clear hsb hgo huh
  by_cases huv : u = v
  ·exact absurd i2 (by omega)
  have hvu : v < u := by omega
  by_cases hu1 : u = v + 1
  ·subst hu1
   have hd : ((v + 1 : Nat) : Int) - (v : Int) = 1 := by omega
   rw [show v + 1 - 1 = v from rfl, G.runTxt_one] at N2
   clear huv
   go_wp2_with fail
   refine (itoaC v (by omega) _).mono ?_
   rintro e w4 ⟨rfl, rfl⟩
   have HOx := J (HRun.u.row.alloc (.cells #[.string (G.decB v)] 9))
   go_wp2_with (at_builtin; go_loud (refine wpList_append_lies _ (by rfl) (.tmp 66) (.tmp 69) 23 (by rfl) 0 9 it (.string ByteArray.empty) 1 16 Tryz.underlying23 hit hz0 hz1 hz2 rfl (by decide) (.slice A (G.txtsUp s lo hi v).length cap) _ _ rfl HOx.u.owns ⟨wr.heap.size, 0, none⟩ 1 1 [.string (G.decB v)] rfl rfl (G.new_one rfl) (by simp [Value.oneCell']) (by decide) HM3.u HM4.u (Nat.zero_le _) _ rfl ?_))
   intro b2 cap2 w5 hown hg ho hlt2
   have HN := J (HRun.u.app (N2.u hvu) N3.u N4.u hown hg ho hlt2)
   have hlen : (G.txtsUp s lo hi ((v + 1) + 1)).length = (G.txtsUp s lo hi v).length + 1 := by rw [N2.u hvu, List.length_append]; rfl
   clear hown hg ho hlt2 HOx
   go_wp2_with fail
   go_roundw
   case rel => exact ⟨(v + 1) + 1, by go_num, by omega, by omega, HN⟩
   case measure => simp [intOf]; omega
  have hd0 : ((u : Int) - (v : Int)) ≠ 0 := by omega
  have hd1 : ((u : Int) - (v : Int)) ≠ 1 := by omega
  have hd2 : (0 : Int) ≤ (u : Int) - (v : Int) := by omega
  have hd3 : (u : Int) - 1 = ((u - 1 : Nat) : Int) := by omega
  rw [G.runTxt_two (show u - 1 ≠ v by omega)] at N2
  have sz1 := G.decB_size (show v < 100 by omega)
  have sz2 := G.decB_size (show u - 1 < 100 by omega)
  clear huv
  go_wp2_with fail
  refine (itoaC v (by omega) _).mono ?_
  rintro e w4 ⟨rfl, rfl⟩
  have hsz1 : ((G.decB v).size : Int) ≤ 8388608 := by omega
  have hsz3 : (G.decB v).size + (⟨#[45]⟩ : ByteArray).size ≤ 9223372036854775807 := by have : (⟨#[45]⟩ : ByteArray).size = 1 := rfl; omega
  go_wp2_with fail
  refine (itoaC (u - 1) (by omega) _).mono ?_
  rintro e w4 ⟨rfl, rfl⟩
  have hsz4 : (G.decB v ++ ⟨#[45]⟩).size + (G.decB (u - 1)).size ≤ 9223372036854775807 := by rw [ByteArray.size_append]; have : (⟨#[45]⟩ : ByteArray).size = 1 := rfl; omega
  have HOx := J (HRun.u.row.alloc (.cells #[.string (G.decB v ++ ⟨#[45]⟩ ++ G.decB (u - 1))] 9))
  go_wp2_with (at_builtin; go_loud (refine wpList_append_lies _ (by rfl) (.tmp 52) (.tmp 60) 23 (by rfl) 0 9 it (.string ByteArray.empty) 1 16 Tryz.underlying23 hit hz0 hz1 hz2 rfl (by decide) (.slice A (G.txtsUp s lo hi v).length cap) _ _ rfl HOx.u.owns ⟨wr.heap.size, 0, none⟩ 1 1 [.string (G.decB v ++ ⟨#[45]⟩ ++ G.decB (u - 1))] rfl rfl (G.new_one rfl) (by simp [Value.oneCell']) (by decide) HM3.u HM4.u (Nat.zero_le _) _ rfl ?_))
  intro b2 cap2 w5 hown hg ho hlt2
  have HN := J (HRun.u.app (N2.u hvu) N3.u N4.u hown hg ho hlt2)
  have hlen : (G.txtsUp s lo hi (u + 1)).length = (G.txtsUp s lo hi v).length + 1 := by rw [N2.u hvu, List.length_append]; rfl
  clear hown hg ho hlt2 HOx
  go_wp2_with fail
  go_roundw
  case rel => exact ⟨u + 1, by go_num, by omega, by omega, HN⟩
  case measure => simp [intOf]; omega
 have hvh : (hi : Int) < (v : Int) := by omega
 have hfin := HRun.u.fin (by omega)
 have hsz := G.joinB_size 44 (k := 5) (G.txtsUp_size (s := s) (lo := lo) (v := hi + 1) (Nat.le_refl _) (show hi < 99 by omega))
 have hrow := HRun.u.row
 have HBl := J HRun.u.st.below
 rw [hfin] at hrow hcA htl ⊢
 have htl2 : (G.txtsUp s lo hi (hi + 1)).length ≤ 62 := by omega
 clear hfin htl
 generalize G.txtsUp s lo hi (hi + 1) = D at hrow hsz HFin hcA htl2 ⊢
 have HSz := J (show (Lib.join (D.map (·.data.toList)) [44]).length ≤ 140737488355328 by
  have e := G.ba_size (G.joinB 44 D)
  have e2 : (G.joinB 44 D).data.toList = Lib.join (D.map (·.data.toList)) [44] := rfl
  rw [e2] at e
  omega)
 clear hsz hlt HRun HM3 HM4
 by_cases hD : D.length = 0
 ·obtain rfl : D = [] := List.eq_nil_of_length_eq_zero hD
  have HF := J (fun W' hb => HFin.u W' hb)
  clear hrow
  go_wp2_with fail
  refine (Tryz.strings_Join_none _ _ _ _).mono ?_
  rintro e w4 ⟨rfl, rfl⟩
  go_wp2_with fail
  go_ret
  exact HF.u _ HBl.u
 obtain ⟨b, cap', e, _, _, _, hr⟩ := hrow.form (by omega)
 cases e
 have HJ := J (Tryz.strings_Join b 0 cap D ⟨#[44]⟩ wr (fun j x hx => by rw [Nat.zero_add]; exact hr.cell (by rw [List.getElem?_map, hx]; rfl)) hr.inside (by omega) hcA HSz.u)
 clear hr hrow
 go_wp2_with fail
 refine HJ.u.mono ?_
 rintro e w4 ⟨rfl, hb4⟩
 have HF := J (HFin.u w4 (HBl.u.trans (hb4.mono HBl.u.size)))
 clear hb4
 go_wp2_with fail
 go_ret
 exact HF.u
end Go.Proofs.YtoidcbpcnikejaaGreatDoor
