/- The contract of (cron.field).text. -/
import Derived.Deep.CutBlock
import Derived.Deep.AppendLies
import Derived.Test.YtidonhndeohdlaaGreatDoorTk
import Derived.Test.YtidonhndeohdlaaGreatDoorTt13
import Derived.Test.YtidonhndeohdlaaGreatDoorTt14
set_option linter.unusedVariables false
set_option linter.unusedSimpArgs false
namespace Go.Proofs.YtidonhndeohdlaaGreatDoor
open Go.RowKit
structure TxS (w0 W : World) (g : Nat) (c : Array Value) (B : Nat) (bx : Array Value) : Prop where
  row : Tide.At W g 61 c
  box : Tide.At W B 108 bx
  below : Below w0.heap.size w0 W
theorem TxS.next {w0 W W' : World} {g B : Nat} {c bx : Array Value} (h : TxS w0 W g c B bx) (hb : Below W.heap.size W W') : TxS w0 W' g c B bx :=
  ⟨h.row.below hb h.row.inside, h.box.below hb h.box.inside, h.below.trans (hb.mono h.below.size)⟩
theorem TxS.drew {w0 W : World} {g B : Nat} {c bx : Array Value} (h : TxS w0 W g c B bx) : TxS w0 W.drew g c B bx := ⟨h.row.drew, h.box.drew, h.below.drew⟩
def TextPost (k : Nat) (an : Option Nat) (s : Nat) (any : Bool) (w : World) (e : Ending) (w' : World) : Prop := e = .returned (.string (Tide.fieldTxt s (Tide.lim k).1 (Tide.lim k).2 any)) ∧ Below w.heap.size w w'
structure TxRun (w wr : World) (g : Nat) (c bx : Array Value) (s lo hi v : Nat) (x : Value) : Prop where
  st : TxS w wr g c w.heap.size bx
  row : Tide.OwnRow (fun b => w.heap.size ≤ b) wr 9 1 x (Tide.txtsUp s lo hi v).length ((Tide.txtsUp s lo hi v).map Value.string)
  edge : v ≤ hi → v = lo ∨ s.testBit (v - 1) = false
  fin : hi < v → Tide.txtsUp s lo hi v = Tide.txtsUp s lo hi (hi + 1)
def InRun (s hi v u : Nat) : Prop := u = v ∨ (v < u ∧ (∀ t, v ≤ t → t < u → s.testBit t = true) ∧ ∃ f, Tide.runEnd s hi f (u - 1) = Tide.runEnd s hi 64 v ∧ hi - (u - 1) ≤ f)
theorem InRun.next {s hi v u : Nat} (h : InRun s hi v u) (hh : hi ≤ 60) (hu : u ≤ hi) (hb : s.testBit u = true) : InRun s hi v (u + 1) := by
  rcases h with rfl | ⟨h1, h2, f, h3, h4⟩
  · exact .inr ⟨by omega, fun t a b => by obtain rfl : t = u := by omega
                                          exact hb, 64, rfl, by omega⟩
  · obtain ⟨g, rfl, e⟩ := Tide.runEnd_go h4 (show u - 1 < hi by omega) (by rw [show u - 1 + 1 = u by omega]; exact hb)
    rw [show u - 1 + 1 = u by omega] at e
    exact .inr ⟨by omega, fun t a b => by
      by_cases ht : t = u
      · subst ht; exact hb
      · exact h2 t a (by omega), g, by rw [show u + 1 - 1 = u by omega, ← e]; exact h3, by omega⟩
theorem in_end {s lo hi v u : Nat} (hh : hi ≤ 60) (v1 : lo ≤ v) (hv : v ≤ hi) (he : v = lo ∨ s.testBit (v - 1) = false) (h : InRun s hi v u) (hu : u ≤ hi + 1) (hstop : ¬ (u ≤ hi ∧ s.testBit u = true)) :
    (u = v → Tide.txtsUp s lo hi (u + 1) = Tide.txtsUp s lo hi v) ∧ (v < u → Tide.txtsUp s lo hi (u + 1) = Tide.txtsUp s lo hi v ++ [Tide.runTxt v (u - 1)]) ∧ (u + 1 ≤ hi → u + 1 = lo ∨ s.testBit (u + 1 - 1) = false) ∧ (hi < u + 1 → Tide.txtsUp s lo hi (u + 1) = Tide.txtsUp s lo hi (hi + 1)) := by
  have hbu : u ≤ hi → s.testBit u = false := fun h1 => by
    cases hb : s.testBit u with
    | false => rfl
    | true => exact absurd ⟨h1, hb⟩ hstop
  refine ⟨fun e => ?_, fun hlt => ?_, fun h1 => .inr (by rw [show u + 1 - 1 = u by omega]; exact hbu (by omega)), fun h1 => ?_⟩
  rotate_left 2
  · by_cases e : u = hi
    · rw [e]
    · obtain rfl : u = hi + 1 := by omega
      rcases h with h | ⟨_, h2, _⟩
      · omega
      · refine Tide.txtsUp_no ?_
        unfold Tide.begins
        rw [show hi + 1 - 1 = hi from rfl, h2 hi hv (by omega), decide_eq_false (show ¬ hi + 1 = lo by omega)]; simp
  · subst e
    exact Tide.txtsUp_no (by unfold Tide.begins; rw [hbu hv]; simp)
  · rcases h with rfl | ⟨_, h2, f, h3, h4⟩
    · exact absurd hlt (Nat.lt_irrefl _)
    · have e : Tide.runEnd s hi 64 v = u - 1 := by
        rw [← h3]
        exact Tide.runEnd_stop (fun ⟨a, b⟩ => by rw [show u - 1 + 1 = u by omega] at b; rw [hbu (by omega)] at b; cases b)
      obtain ⟨d, rfl⟩ : ∃ d, u = v + d := ⟨u - v, by omega⟩
      rw [show v + d + 1 = v + 1 + d by omega, Tide.txtsUp_skip d v1 (fun t a b => .inr (h2 (t - 1) (by omega) (by omega))), Tide.txtsUp_yes v1, e]
      unfold Tide.begins
      rw [h2 v (Nat.le_refl _) hlt, Bool.true_and, Bool.or_eq_true]
      rcases he with he | he
      · exact .inl (decide_eq_true he)
      · exact .inr (by rw [he]; rfl)
theorem TxRun.app {w wr w5 : World} {g : Nat} {c bx : Array Value} {s lo hi v v' : Nat} {A : Option Addr} {cap b2 cap2 : Nat} {item : ByteArray} (H : TxRun w wr g c bx s lo hi v (.slice A (Tide.txtsUp s lo hi v).length cap))
    (e : Tide.txtsUp s lo hi v' = Tide.txtsUp s lo hi v ++ [item]) (he : v' ≤ hi → v' = lo ∨ s.testBit (v' - 1) = false) (hfi : hi < v' → Tide.txtsUp s lo hi v' = Tide.txtsUp s lo hi (hi + 1))
    (hown : w5.ownsRow 0 9 1 (.slice (some ⟨b2, 0, none⟩) ((Tide.txtsUp s lo hi v).length + 1) cap2) ((Tide.txtsUp s lo hi v).length + 1) ((Tide.txtsUp s lo hi v).map Value.string ++ [.string item]))
    (hg : (wr.alloc (.cells #[.string item] 9)).grownBy w5 (Value.slice A (Tide.txtsUp s lo hi v).length cap).ownBlock)
    (ho : (Value.slice A (Tide.txtsUp s lo hi v).length cap).ownBlock = some b2 ∨ b2 = wr.heap.size + 1) (hlt2 : b2 < w5.heap.size) :
    TxRun w w5 g c bx s lo hi v' (.slice (some ⟨b2, 0, none⟩) ((Tide.txtsUp s lo hi v).length + 1) cap2) := by
  have HO := H.row.alloc (.cells #[.string item] 9)
  have HS := H.st.next ((Below.refl _ _).alloc (Nat.le_refl _) (.cells #[.string item] 9))
  have a1 := HO.apartAt HS.row (by decide)
  have a2 := HO.apartAt HS.box (by decide)
  obtain ⟨r1, r2⟩ := HO.app hown hg (ho.imp id (fun e => e.trans (by simp))) hlt2
  refine ⟨⟨HS.row.grown hg (fun e => a1 _ e rfl), HS.box.grown hg (fun e => a2 _ e rfl), HS.below.trans (r2.below HS.below.size (fun b hb h => by omega))⟩, ?_, he, hfi⟩
  rw [e, List.length_append, List.map_append]
  exact r1.mono (fun b _ hb => by
    have := HS.below.size
    rcases hb with hb | hb
    · exact hb
    · omega)
theorem TxRun.still {w wr : World} {g : Nat} {c bx : Array Value} {s lo hi v v' : Nat} {x : Value} (H : TxRun w wr g c bx s lo hi v x) (e : Tide.txtsUp s lo hi v' = Tide.txtsUp s lo hi v) (he : v' ≤ hi → v' = lo ∨ s.testBit (v' - 1) = false) (hfi : hi < v' → Tide.txtsUp s lo hi v' = Tide.txtsUp s lo hi (hi + 1)) : TxRun w wr g c bx s lo hi v' x :=
  ⟨H.st, by rw [e]; exact H.row, he, hfi⟩
theorem itoaC (i : Nat) (hi : i < 100) (w : World) : Calls Tryz.prog 20 #[.int .i64 i] w fun e w' => e = .returned (.string (Tide.decB i)) ∧ w = w' := (Tryz.strconv_Itoa_small i hi w).mono fun _ _ ⟨a, b⟩ => ⟨a, b.symm⟩
set_option maxRecDepth 100000 in
set_option maxHeartbeats 3200000 in
theorem cronText (k g s : Nat) (an : Option Nat) (any : Bool) (c : Array Value) (w : World)
    (hA : Tide.At w g 61 c) (hs : Word s) (hc : c[k]? = some (.int .u64 (s : Int))) (hn : an = none → any = true) (ha : ∀ j, an = some j → c[j]? = some (.bool any)) :
    Calls Tryz.prog 50 #[.agg (fieldV g k an)] w (TextPost k an s any w) := by
  have hB := Tide.At.made w 108 (fieldV g k an)
  have HR := Lib.hid (show TxS w (w.alloc (.cells (fieldV g k an) 108)) g c w.heap.size (fieldV g k an) from ⟨hA.alloc _, hB, (Below.refl _ _).alloc (Nat.le_refl _) _⟩)
  have HW := Lib.hid hs
  obtain ⟨it, hit, hz0, hz1, hz2⟩ := info_split info_text
  have HC := Lib.hid hc
  clear hs hB hA hc
  obtain ⟨lo, hi, l1, l2, HLim⟩ : ∃ lo hi, lo ≤ hi ∧ hi ≤ 60 ∧ Hid (Tide.lim k = (lo, hi)) := ⟨_, _, (Tide.lim_le k).1, (Tide.lim_le k).2, Lib.hid rfl⟩
  go_enter Tryz.func50, Tryz.ntmps50
  go_upto_region 1 with fail
  generalize w.alloc (.cells (fieldV g k an) 108) = W at HR ⊢
  go_cut [23] (fun x wy => x = .bool (decide (s = Tide.allN lo hi) && any) ∧ Hid (TxS w wy g c w.heap.size (fieldV g k an)))
  case first =>
    have x0 : W.cell? ⟨w.heap.size, 0, none⟩ = some (.pointer (some ⟨g, k, none⟩)) := HR.out.box.here (i := 0) rfl
    have x1 : W.cell? ⟨w.heap.size, 1, none⟩ = some (.int .i64 (lo : Nat)) := by have x : W.cell? ⟨w.heap.size, 1, none⟩ = some (.int .i64 ((Tide.lim k).1 : Nat)) := HR.out.box.here (i := 1) rfl; rw [HLim.out] at x; exact x
    have x2 : W.cell? ⟨w.heap.size, 2, none⟩ = some (.int .i64 (hi : Nat)) := by have x : W.cell? ⟨w.heap.size, 2, none⟩ = some (.int .i64 ((Tide.lim k).2 : Nat)) := HR.out.box.here (i := 2) rfl; rw [HLim.out] at x; exact x
    have x3 : W.cell? ⟨w.heap.size, 3, none⟩ = some (anyV g an) := HR.out.box.here (i := 3) rfl
    have x4 : W.cell? ⟨g, k, none⟩ = some (.int .u64 (s : Int)) := HR.out.row.here HC.out
    by_cases he : s = Tide.allN lo hi
    · have he2 : ((s : Int) == ((Tide.allN lo hi : Nat) : Int)) = true := by rw [beq_iff_eq, he]
      have HE := Lib.hid he
      clear he
      cases an with
      | none =>
        obtain rfl := hn rfl
        have x5 := x4
        simp only [anyV] at x3
        have hall := Lib.hid (fun W => all_keep lo hi (.pointer (some ⟨g, k, none⟩)) (.pointer none) W l1 l2 ⟨w.heap.size, 0, none⟩ ⟨w.heap.size, 1, none⟩ ⟨w.heap.size, 2, none⟩ ⟨w.heap.size, 3, none⟩ ⟨g, k, none⟩ ⟨g, k, none⟩)
        have HS0 := Lib.hid (show RegS w.heap.size g k s lo hi (.pointer none) k (.int .u64 (s : Int)) W.drew from ⟨x0, x1, x2, x3, x4, x5⟩)
        clear x0 x1 x2 x3 x4 x5
        have hS : (RegS w.heap.size g k s lo hi (.pointer none) k (.int .u64 (s : Int))) W.drew := HS0.out
        refine wp_region_held_drew (S := (RegS w.heap.size g k s lo hi (.pointer none) k (.int .u64 (s : Int)))) (by kernel_rfl) hS (fun _ => ?_)
        change wpAnyH _ _ _ _ _ 18 #[false, false, false, false, false, false, false, false, false, false, false, false, false, false, false, false, false, false] _ (World.drew _)
        refine tk 0 (.pointer (some ⟨w.heap.size, 0, none⟩)) rfl (.inl ⟨by rfl, fun W hW => ?_⟩) hS ?_
        · obtain ⟨z0, z1, z2, z3, z4, z5⟩ := hW; go_simp
        simp only [Act.put, tkA, tkB, tkC, tkD, tkE, tkF]
        refine tk 1 (.pointer (some ⟨g, k, none⟩)) rfl (.inl ⟨by rfl, fun W hW => ?_⟩) hS ?_
        · obtain ⟨z0, z1, z2, z3, z4, z5⟩ := hW; go_simp
        simp only [Act.put, tkA, tkB, tkC, tkD, tkE, tkF]
        refine tk 2 (.pointer (some ⟨g, k, none⟩)) rfl (.inl ⟨by rfl, fun W hW => ?_⟩) hS ?_
        · obtain ⟨z0, z1, z2, z3, z4, z5⟩ := hW; go_simp
        simp only [Act.put, tkA, tkB, tkC, tkD, tkE, tkF]
        refine tk 3 (.int .u64 (s : Int)) rfl (.inl ⟨by rfl, fun W hW => ?_⟩) hS ?_
        · obtain ⟨z0, z1, z2, z3, z4, z5⟩ := hW; go_simp
        simp only [Act.put, tkA, tkB, tkC, tkD, tkE, tkF]
        refine tk 4 (.agg #[.pointer (some ⟨g, k, none⟩), .int .i64 lo, .int .i64 hi, .pointer none]) rfl (.inl ⟨by rfl, fun W hW => ?_⟩) hS ?_
        · obtain ⟨z0, z1, z2, z3, z4, z5⟩ := hW; go_simp
        simp only [Act.put, tkA, tkB, tkC, tkD, tkE, tkF]
        refine wpAnyH_ready (rs := [5]) (by kernel_rfl) (by simp) (AllReadyH.cons rfl (fun K hK => ?_) AllReadyH.nil)
        go_simp
        refine (hall.out _ _ _ _ _ _ _ hS.1 hS.2.1 hS.2.2.1 hS.2.2.2.1 hS.2.2.2.2.1 hS.2.2.2.2.2).mono ?_
        rintro e w2 ⟨rfl, y0, y1, y2, y3, y4, y5, hbb2⟩
        have hS2 : (RegS w.heap.size g k s lo hi (.pointer none) k (.int .u64 (s : Int))) w2 := ⟨y0, y1, y2, y3, y4, y5⟩
        clear y0 y1 y2 y3 y4 y5
        go_wp2_with fail
        refine hK.out _ _ hS2 (fun _ => ?_)
        clear hK K
        refine tk 6 (.bool true) rfl (.inl ⟨by rfl, fun W hW => ?_⟩) hS2 ?_
        · obtain ⟨z0, z1, z2, z3, z4, z5⟩ := hW; go_simp
        simp only [Act.put, tkA, tkB, tkC, tkD, tkE, tkF]
        refine tk 7 (.bool true) rfl (.inl ⟨by rfl, fun W hW => ?_⟩) hS2 ?_
        · obtain ⟨z0, z1, z2, z3, z4, z5⟩ := hW; go_simp
        simp only [Act.put, tkA, tkB, tkC, tkD, tkE, tkF]
        refine tk 8 (.pointer (some ⟨w.heap.size, 3, none⟩)) rfl (.inl ⟨by rfl, fun W hW => ?_⟩) hS2 ?_
        · obtain ⟨z0, z1, z2, z3, z4, z5⟩ := hW; go_simp
        simp only [Act.put, tkA, tkB, tkC, tkD, tkE, tkF]
        refine tk 9 (.pointer none) rfl (.inl ⟨by rfl, fun W hW => ?_⟩) hS2 ?_
        · obtain ⟨z0, z1, z2, z3, z4, z5⟩ := hW; go_simp
        simp only [Act.put, tkA, tkB, tkC, tkD, tkE, tkF]
        refine tk 10 (.bool true) rfl (.inl ⟨by rfl, fun W hW => ?_⟩) hS2 ?_
        · obtain ⟨z0, z1, z2, z3, z4, z5⟩ := hW; go_simp
        simp only [Act.put, tkA, tkB, tkC, tkD, tkE, tkF]
        refine tk 11 (.bool true) rfl (.inl ⟨by rfl, fun W hW => ?_⟩) hS2 ?_
        · obtain ⟨z0, z1, z2, z3, z4, z5⟩ := hW; go_simp
        simp only [Act.put, tkA, tkB, tkC, tkD, tkE, tkF]
        refine tk 12 undef rfl (.inr ⟨by rfl, rfl⟩) hS2 ?_
        simp only [Act.put, tkA, tkB, tkC, tkD, tkE, tkF]
        refine tk 13 undef rfl (.inr ⟨by rfl, rfl⟩) hS2 ?_
        simp only [Act.put, tkA, tkB, tkC, tkD, tkE, tkF]
        refine tk 14 undef rfl (.inr ⟨by rfl, rfl⟩) hS2 ?_
        simp only [Act.put, tkA, tkB, tkC, tkD, tkE, tkF]
        refine tk 15 undef rfl (.inr ⟨by rfl, rfl⟩) hS2 ?_
        simp only [Act.put, tkA, tkB, tkC, tkD, tkE, tkF]
        refine tk 16 (.bool true) rfl (.inl ⟨by rfl, fun W hW => ?_⟩) hS2 ?_
        · obtain ⟨z0, z1, z2, z3, z4, z5⟩ := hW; go_simp
        simp only [Act.put, tkA, tkB, tkC, tkD, tkE, tkF]
        refine tk 17 (.bool true) rfl (.inl ⟨by rfl, fun W hW => ?_⟩) hS2 ?_
        · obtain ⟨z0, z1, z2, z3, z4, z5⟩ := hW; go_simp
        simp only [Act.put, tkA, tkB, tkC, tkD, tkE, tkF]
        refine wpAnyH_done (by kernel_rfl) ?_ _
        have HX := Lib.hid (HR.out.drew.next hbb2)
        clear hS hS2 hbb2 HS0 hall
        go_wp2_with fail
        go_meet
        exact ⟨by rw [decide_eq_true HE.out]; rfl, HX⟩
      | some j =>
        have x5 : W.cell? ⟨g, j, none⟩ = some (.bool any) := HR.out.row.here (ha j rfl)
        simp only [anyV] at x3
        have hall := Lib.hid (fun W => all_keep lo hi (.pointer (some ⟨g, k, none⟩)) (.pointer (some ⟨g, j, none⟩)) W l1 l2 ⟨w.heap.size, 0, none⟩ ⟨w.heap.size, 1, none⟩ ⟨w.heap.size, 2, none⟩ ⟨w.heap.size, 3, none⟩ ⟨g, k, none⟩ ⟨g, j, none⟩)
        have HS0 := Lib.hid (show RegS w.heap.size g k s lo hi (.pointer (some ⟨g, j, none⟩)) j (.bool any) W.drew from ⟨x0, x1, x2, x3, x4, x5⟩)
        clear x0 x1 x2 x3 x4 x5
        have hS : (RegS w.heap.size g k s lo hi (.pointer (some ⟨g, j, none⟩)) j (.bool any)) W.drew := HS0.out
        refine wp_region_held_drew (S := (RegS w.heap.size g k s lo hi (.pointer (some ⟨g, j, none⟩)) j (.bool any))) (by kernel_rfl) hS (fun _ => ?_)
        change wpAnyH _ _ _ _ _ 18 #[false, false, false, false, false, false, false, false, false, false, false, false, false, false, false, false, false, false] _ (World.drew _)
        refine tk 0 (.pointer (some ⟨w.heap.size, 0, none⟩)) rfl (.inl ⟨by rfl, fun W hW => ?_⟩) hS ?_
        · obtain ⟨z0, z1, z2, z3, z4, z5⟩ := hW; go_simp
        simp only [Act.put, tkA, tkB, tkC, tkD, tkE, tkF]
        refine tk 1 (.pointer (some ⟨g, k, none⟩)) rfl (.inl ⟨by rfl, fun W hW => ?_⟩) hS ?_
        · obtain ⟨z0, z1, z2, z3, z4, z5⟩ := hW; go_simp
        simp only [Act.put, tkA, tkB, tkC, tkD, tkE, tkF]
        refine tk 2 (.pointer (some ⟨g, k, none⟩)) rfl (.inl ⟨by rfl, fun W hW => ?_⟩) hS ?_
        · obtain ⟨z0, z1, z2, z3, z4, z5⟩ := hW; go_simp
        simp only [Act.put, tkA, tkB, tkC, tkD, tkE, tkF]
        refine tk 3 (.int .u64 (s : Int)) rfl (.inl ⟨by rfl, fun W hW => ?_⟩) hS ?_
        · obtain ⟨z0, z1, z2, z3, z4, z5⟩ := hW; go_simp
        simp only [Act.put, tkA, tkB, tkC, tkD, tkE, tkF]
        refine tk 4 (.agg #[.pointer (some ⟨g, k, none⟩), .int .i64 lo, .int .i64 hi, .pointer (some ⟨g, j, none⟩)]) rfl (.inl ⟨by rfl, fun W hW => ?_⟩) hS ?_
        · obtain ⟨z0, z1, z2, z3, z4, z5⟩ := hW; go_simp
        simp only [Act.put, tkA, tkB, tkC, tkD, tkE, tkF]
        refine wpAnyH_ready (rs := [5]) (by kernel_rfl) (by simp) (AllReadyH.cons rfl (fun K hK => ?_) AllReadyH.nil)
        go_simp
        refine (hall.out _ _ _ _ _ _ _ hS.1 hS.2.1 hS.2.2.1 hS.2.2.2.1 hS.2.2.2.2.1 hS.2.2.2.2.2).mono ?_
        rintro e w2 ⟨rfl, y0, y1, y2, y3, y4, y5, hbb2⟩
        have hS2 : (RegS w.heap.size g k s lo hi (.pointer (some ⟨g, j, none⟩)) j (.bool any)) w2 := ⟨y0, y1, y2, y3, y4, y5⟩
        clear y0 y1 y2 y3 y4 y5
        go_wp2_with fail
        refine hK.out _ _ hS2 (fun _ => ?_)
        clear hK K
        refine tk 6 (.bool true) rfl (.inl ⟨by rfl, fun W hW => ?_⟩) hS2 ?_
        · obtain ⟨z0, z1, z2, z3, z4, z5⟩ := hW; go_simp
        simp only [Act.put, tkA, tkB, tkC, tkD, tkE, tkF]
        refine tk 7 (.bool true) rfl (.inl ⟨by rfl, fun W hW => ?_⟩) hS2 ?_
        · obtain ⟨z0, z1, z2, z3, z4, z5⟩ := hW; go_simp
        simp only [Act.put, tkA, tkB, tkC, tkD, tkE, tkF]
        refine tk 8 (.pointer (some ⟨w.heap.size, 3, none⟩)) rfl (.inl ⟨by rfl, fun W hW => ?_⟩) hS2 ?_
        · obtain ⟨z0, z1, z2, z3, z4, z5⟩ := hW; go_simp
        simp only [Act.put, tkA, tkB, tkC, tkD, tkE, tkF]
        refine tk 9 (.pointer (some ⟨g, j, none⟩)) rfl (.inl ⟨by rfl, fun W hW => ?_⟩) hS2 ?_
        · obtain ⟨z0, z1, z2, z3, z4, z5⟩ := hW; go_simp
        simp only [Act.put, tkA, tkB, tkC, tkD, tkE, tkF]
        refine tk 10 (.bool false) rfl (.inl ⟨by rfl, fun W hW => ?_⟩) hS2 ?_
        · obtain ⟨z0, z1, z2, z3, z4, z5⟩ := hW; go_simp
        simp only [Act.put, tkA, tkB, tkC, tkD, tkE, tkF]
        refine tk 11 (.bool false) rfl (.inl ⟨by rfl, fun W hW => ?_⟩) hS2 ?_
        · obtain ⟨z0, z1, z2, z3, z4, z5⟩ := hW; go_simp
        simp only [Act.put, tkA, tkB, tkC, tkD, tkE, tkF]
        refine tk 12 (.pointer (some ⟨w.heap.size, 3, none⟩)) rfl (.inl ⟨by rfl, fun W hW => ?_⟩) hS2 ?_
        · obtain ⟨z0, z1, z2, z3, z4, z5⟩ := hW; go_simp
        simp only [Act.put, tkA, tkB, tkC, tkD, tkE, tkF]
        refine tk 13 (.pointer (some ⟨g, j, none⟩)) rfl (.inl ⟨by rfl, fun W hW => ?_⟩) hS2 ?_
        · obtain ⟨z0, z1, z2, z3, z4, z5⟩ := hW; go_simp
        simp only [Act.put, tkA, tkB, tkC, tkD, tkE, tkF]
        refine tk 14 (.pointer (some ⟨g, j, none⟩)) rfl (.inl ⟨by rfl, fun W hW => ?_⟩) hS2 ?_
        · obtain ⟨z0, z1, z2, z3, z4, z5⟩ := hW; go_simp
        simp only [Act.put, tkA, tkB, tkC, tkD, tkE, tkF]
        refine tk 15 (.bool any) rfl (.inl ⟨by rfl, fun W hW => ?_⟩) hS2 ?_
        · obtain ⟨z0, z1, z2, z3, z4, z5⟩ := hW; go_simp
        simp only [Act.put, tkA, tkB, tkC, tkD, tkE, tkF]
        refine tk 16 (.bool any) rfl (.inl ⟨by rfl, fun W hW => ?_⟩) hS2 ?_
        · obtain ⟨z0, z1, z2, z3, z4, z5⟩ := hW; go_simp
        simp only [Act.put, tkA, tkB, tkC, tkD, tkE, tkF]
        refine tk 17 (.bool any) rfl (.inl ⟨by rfl, fun W hW => ?_⟩) hS2 ?_
        · obtain ⟨z0, z1, z2, z3, z4, z5⟩ := hW; go_simp
        simp only [Act.put, tkA, tkB, tkC, tkD, tkE, tkF]
        refine wpAnyH_done (by kernel_rfl) ?_ _
        have HX := Lib.hid (HR.out.drew.next hbb2)
        clear hS hS2 hbb2 HS0 hall
        go_wp2_with fail
        go_meet
        exact ⟨by rw [decide_eq_true HE.out]; rfl, HX⟩
    · have he2 : ((s : Int) == ((Tide.allN lo hi : Nat) : Int)) = false := by rw [beq_eq_false_iff_ne]; exact fun e => he (by exact_mod_cast e)
      have HE := Lib.hid he
      clear he
      obtain ⟨P0, hP⟩ : ∃ P0, anyV g an = .pointer P0 := by cases an <;> exact ⟨_, rfl⟩
      rw [hP] at x3
      have x5 := x4
      have hall := Lib.hid (fun W => all_keep lo hi (.pointer (some ⟨g, k, none⟩)) (.pointer P0) W l1 l2 ⟨w.heap.size, 0, none⟩ ⟨w.heap.size, 1, none⟩ ⟨w.heap.size, 2, none⟩ ⟨w.heap.size, 3, none⟩ ⟨g, k, none⟩ ⟨g, k, none⟩)
      have HS0 := Lib.hid (show RegS w.heap.size g k s lo hi (.pointer P0) k (.int .u64 (s : Int)) W.drew from ⟨x0, x1, x2, x3, x4, x5⟩)
      clear x0 x1 x2 x3 x4 x5
      have hS : (RegS w.heap.size g k s lo hi (.pointer P0) k (.int .u64 (s : Int))) W.drew := HS0.out
      refine wp_region_held_drew (S := (RegS w.heap.size g k s lo hi (.pointer P0) k (.int .u64 (s : Int)))) (by kernel_rfl) hS (fun _ => ?_)
      change wpAnyH _ _ _ _ _ 18 #[false, false, false, false, false, false, false, false, false, false, false, false, false, false, false, false, false, false] _ (World.drew _)
      refine tk 0 (.pointer (some ⟨w.heap.size, 0, none⟩)) rfl (.inl ⟨by rfl, fun W hW => ?_⟩) hS ?_
      · obtain ⟨z0, z1, z2, z3, z4, z5⟩ := hW; go_simp
      simp only [Act.put, tkA, tkB, tkC, tkD, tkE, tkF]
      refine tk 1 (.pointer (some ⟨g, k, none⟩)) rfl (.inl ⟨by rfl, fun W hW => ?_⟩) hS ?_
      · obtain ⟨z0, z1, z2, z3, z4, z5⟩ := hW; go_simp
      simp only [Act.put, tkA, tkB, tkC, tkD, tkE, tkF]
      refine tk 2 (.pointer (some ⟨g, k, none⟩)) rfl (.inl ⟨by rfl, fun W hW => ?_⟩) hS ?_
      · obtain ⟨z0, z1, z2, z3, z4, z5⟩ := hW; go_simp
      simp only [Act.put, tkA, tkB, tkC, tkD, tkE, tkF]
      refine tk 3 (.int .u64 (s : Int)) rfl (.inl ⟨by rfl, fun W hW => ?_⟩) hS ?_
      · obtain ⟨z0, z1, z2, z3, z4, z5⟩ := hW; go_simp
      simp only [Act.put, tkA, tkB, tkC, tkD, tkE, tkF]
      refine tk 4 (.agg #[.pointer (some ⟨g, k, none⟩), .int .i64 lo, .int .i64 hi, .pointer P0]) rfl (.inl ⟨by rfl, fun W hW => ?_⟩) hS ?_
      · obtain ⟨z0, z1, z2, z3, z4, z5⟩ := hW; go_simp
      simp only [Act.put, tkA, tkB, tkC, tkD, tkE, tkF]
      refine wpAnyH_ready (rs := [5]) (by kernel_rfl) (by simp) (AllReadyH.cons rfl (fun K hK => ?_) AllReadyH.nil)
      go_simp
      refine (hall.out _ _ _ _ _ _ _ hS.1 hS.2.1 hS.2.2.1 hS.2.2.2.1 hS.2.2.2.2.1 hS.2.2.2.2.2).mono ?_
      rintro e w2 ⟨rfl, y0, y1, y2, y3, y4, y5, hbb2⟩
      have hS2 : (RegS w.heap.size g k s lo hi (.pointer P0) k (.int .u64 (s : Int))) w2 := ⟨y0, y1, y2, y3, y4, y5⟩
      clear y0 y1 y2 y3 y4 y5
      go_wp2_with fail
      refine hK.out _ _ hS2 (fun _ => ?_)
      clear hK K
      refine tk 6 (.bool false) rfl (.inl ⟨by rfl, fun W hW => ?_⟩) hS2 ?_
      · obtain ⟨z0, z1, z2, z3, z4, z5⟩ := hW; go_simp
      simp only [Act.put, tkA, tkB, tkC, tkD, tkE, tkF]
      refine tk 7 (.bool false) rfl (.inl ⟨by rfl, fun W hW => ?_⟩) hS2 ?_
      · obtain ⟨z0, z1, z2, z3, z4, z5⟩ := hW; go_simp
      simp only [Act.put, tkA, tkB, tkC, tkD, tkE, tkF]
      refine tk 8 undef rfl (.inr ⟨by rfl, rfl⟩) hS2 ?_
      simp only [Act.put, tkA, tkB, tkC, tkD, tkE, tkF]
      refine tk 9 undef rfl (.inr ⟨by rfl, rfl⟩) hS2 ?_
      simp only [Act.put, tkA, tkB, tkC, tkD, tkE, tkF]
      refine tk 10 undef rfl (.inr ⟨by rfl, rfl⟩) hS2 ?_
      simp only [Act.put, tkA, tkB, tkC, tkD, tkE, tkF]
      refine tk 11 undef rfl (.inr ⟨by rfl, rfl⟩) hS2 ?_
      simp only [Act.put, tkA, tkB, tkC, tkD, tkE, tkF]
      refine tk 12 undef rfl (.inr ⟨by rfl, rfl⟩) hS2 ?_
      simp only [Act.put, tkA, tkB, tkC, tkD, tkE, tkF]
      refine tk 13 undef rfl (.inr ⟨by rfl, rfl⟩) hS2 ?_
      simp only [Act.put, tkA, tkB, tkC, tkD, tkE, tkF]
      refine tk 14 undef rfl (.inr ⟨by rfl, rfl⟩) hS2 ?_
      simp only [Act.put, tkA, tkB, tkC, tkD, tkE, tkF]
      refine tk 15 undef rfl (.inr ⟨by rfl, rfl⟩) hS2 ?_
      simp only [Act.put, tkA, tkB, tkC, tkD, tkE, tkF]
      refine tk 16 undef rfl (.inr ⟨by rfl, rfl⟩) hS2 ?_
      simp only [Act.put, tkA, tkB, tkC, tkD, tkE, tkF]
      refine tk 17 (.bool false) rfl (.inl ⟨by rfl, fun W hW => ?_⟩) hS2 ?_
      · obtain ⟨z0, z1, z2, z3, z4, z5⟩ := hW; go_simp
      simp only [Act.put, tkA, tkB, tkC, tkD, tkE, tkF]
      refine wpAnyH_done (by kernel_rfl) ?_ _
      have HX := Lib.hid (HR.out.drew.next hbb2)
      clear hS hS2 hbb2 HS0 hall
      go_wp2_with fail
      go_meet
      exact ⟨by rw [decide_eq_false HE.out]; rfl, HX⟩
  case rest =>
    obtain ⟨rfl, HX⟩ := hcut
    clear HR
    by_cases hF : s = Tide.allN lo hi ∧ any = true
    · have HF := Lib.hid (show TextPost k an s any w (.returned (.string ⟨#[42]⟩)) wc from ⟨by unfold Tide.fieldTxt; rw [HLim.out]; show _ = Ending.returned (.string (if s = Tide.allN lo hi ∧ any = true then Tide.star else _)); rw [if_pos hF]; rfl, HX.out.below⟩)
      rw [show (decide (s = Tide.allN lo hi) && any) = true by rw [decide_eq_true hF.1, hF.2]; rfl]
      clear hF
      go_wp2_with fail
      go_ret
      exact HF.out
    · have HFin := Lib.hid (fun (W' : World) (hb : Below w.heap.size w W') => (show TextPost k an s any w (.returned (.string (Tide.joinB 44 (Tide.txtsUp s lo hi (hi + 1))))) W' from ⟨by unfold Tide.fieldTxt; rw [HLim.out]; show _ = Ending.returned (.string (if s = Tide.allN lo hi ∧ any = true then Tide.star else _)); rw [if_neg hF], hb⟩))
      rw [show (decide (s = Tide.allN lo hi) && any) = false by
        cases any with
        | false => simp
        | true => rw [decide_eq_false (fun e => hF ⟨e, rfl⟩)]; rfl]
      clear hF
      have x1 : wc.cell? ⟨w.heap.size, 1, none⟩ = some (.int .i64 (lo : Nat)) := by have x : wc.cell? ⟨w.heap.size, 1, none⟩ = some (.int .i64 ((Tide.lim k).1 : Nat)) := HX.out.box.here (i := 1) rfl; rw [HLim.out] at x; exact x
      have HRun := Lib.hid (show TxRun w wc g c (fieldV g k an) s lo hi lo (.slice none 0 0) from ⟨HX.out, by rw [Tide.txtsUp_lo]; exact Tide.OwnRow.nil _ _ _ _, fun _ => .inl rfl, fun h => absurd h (by omega)⟩)
      go_wp2_with fail
      go_loopw [3, 4] (fun x y wr => ∃ v : Nat, y = .int .i64 (v : Int) ∧ lo ≤ v ∧ v ≤ hi + 2 ∧ Hid (TxRun w wr g c (fieldV g k an) s lo hi v x)) (fun _ y _ => hi + 3 - (intOf y).toNat)
      case atStart => exact ⟨lo, rfl, Nat.le_refl _, by omega, HRun⟩
      case round =>
        clear HRun HX x1
        obtain ⟨v, rfl, v1, v2, HRun⟩ := hrel
        have x0 : wr.cell? ⟨w.heap.size, 0, none⟩ = some (.pointer (some ⟨g, k, none⟩)) := HRun.out.st.box.here (i := 0) rfl
        have x2 : wr.cell? ⟨w.heap.size, 2, none⟩ = some (.int .i64 (hi : Nat)) := by have x : wr.cell? ⟨w.heap.size, 2, none⟩ = some (.int .i64 ((Tide.lim k).2 : Nat)) := HRun.out.st.box.here (i := 2) rfl; rw [HLim.out] at x; exact x
        have x4 : wr.cell? ⟨g, k, none⟩ = some (.int .u64 (s : Int)) := HRun.out.st.row.here HC.out
        obtain ⟨A, cap, rfl, hcA, hcB, _⟩ := HRun.out.row.slice
        have htl := Tide.txtsUp_len s lo hi v
        have HM3 := Lib.hid (show (Tide.txtsUp s lo hi v).length + 1 ≤ maxLen by simp only [maxLen]; omega)
        have HM4 := Lib.hid (show ((Tide.txtsUp s lo hi v).length + 1) * 16 ≤ 140737488355328 by omega)
        have v0 : (0 : Int) ≤ (v : Int) := by omega
        have hi60 : (hi : Int) ≤ 60 := by omega
        have v60 : (v : Int) ≤ 62 := by omega
        by_cases hlt : v ≤ hi
        · have i1 : (v : Int) ≤ (hi : Int) := by omega
          have HI := Lib.hid (show InRun s hi v v from .inl rfl)
          go_wp2_with fail
          go_loop [4] (fun y => ∃ u : Nat, y = .int .i64 (u : Int) ∧ v ≤ u ∧ u ≤ hi + 1 ∧ Hid (InRun s hi v u)) (fun y => hi + 2 - (intOf y).toNat)
          case atStart => exact ⟨v, rfl, Nat.le_refl _, by omega, HI⟩
          case round =>
            clear HI
            obtain ⟨u, rfl, u1, u2, HI⟩ := hrel
            have u0 : (0 : Int) ≤ (u : Int) := by omega
            have u60 : (u : Int) ≤ 61 := by omega
            have hsb := Tide.shift_bit s u HW.out
            by_cases hgo : u ≤ hi ∧ s.testBit u = true
            · obtain ⟨g1, g2⟩ := hgo
              have hb : (bits .and .u64 ((s : Int) / 2 ^ u) 1 == 1) = true := by rw [hsb]; exact g2
              have i2 : (u : Int) ≤ (hi : Int) := by omega
              have HN := Lib.hid (HI.out.next l2 g1 g2)
              have G1 := Lib.hid g1
              clear hsb HI g2 g1
              go_wp2_with fail
              go_round
              case rel => exact ⟨u + 1, by go_num, by omega, by have := G1.out; omega, HN⟩
              case measure => have := G1.out; simp [intOf]; omega
            · obtain ⟨n1, n2, n3, n4⟩ := in_end l2 v1 hlt (HRun.out.edge hlt) HI.out u2 hgo
              have N1 := Lib.hid n1; have N2 := Lib.hid n2; have N3 := Lib.hid n3; have N4 := Lib.hid n4
              clear n1 n2 n3 n4 HI
              by_cases huh : u ≤ hi
              · have hb : (bits .and .u64 ((s : Int) / 2 ^ u) 1 == 1) = false := by
                  rw [hsb]
                  cases hb : s.testBit u with
                  | false => rfl
                  | true => exact absurd ⟨huh, hb⟩ hgo
                have i2 : (u : Int) ≤ (hi : Int) := by omega
                clear hsb hgo huh
                by_cases huv : u = v
                · subst huv
                  have HN := Lib.hid (HRun.out.still (N1.out rfl) N3.out N4.out)
                  clear HRun N1 N2 N3
                  go_wp2_with fail
                  go_roundw
                  case rel => exact ⟨u + 1, by go_num, by omega, by omega, HN⟩
                  case measure => simp [intOf]; omega
                · have hvu : v < u := by omega
                  by_cases hu1 : u = v + 1
                  · subst hu1
                    have hd : ((v + 1 : Nat) : Int) - (v : Int) = 1 := by omega
                    rw [show v + 1 - 1 = v from rfl, Tide.runTxt_one] at N2
                    clear huv
                    go_wp2_with fail
                    refine (itoaC v (by omega) _).mono ?_
                    rintro e w4 ⟨rfl, rfl⟩
                    have HOx := Lib.hid (HRun.out.row.alloc (.cells #[.string (Tide.decB v)] 9))
                    go_wp2_with (at_builtin; go_loud (refine wpList_append_lies _ (by rfl) (.tmp 66) (.tmp 69) 101 (by rfl) 0 9 it (.string ByteArray.empty) 1 16 Tryz.underlying101 hit hz0 hz1 hz2 rfl (by decide) (.slice A (Tide.txtsUp s lo hi v).length cap) _ _ rfl HOx.out.owns ⟨wr.heap.size, 0, none⟩ 1 1 [.string (Tide.decB v)] rfl rfl (Tide.new_one rfl) (by simp [Value.oneCell']) (by decide) HM3.out HM4.out (Nat.zero_le _) _ rfl ?_))
                    intro b2 cap2 w5 hown hg ho hlt2
                    have HN := Lib.hid (HRun.out.app (N2.out hvu) N3.out N4.out hown hg ho hlt2)
                    have hlen : (Tide.txtsUp s lo hi ((v + 1) + 1)).length = (Tide.txtsUp s lo hi v).length + 1 := by rw [N2.out hvu, List.length_append]; rfl
                    clear hown hg ho hlt2 HOx
                    go_wp2_with fail
                    go_roundw
                    case rel => exact ⟨(v + 1) + 1, by go_num, by omega, by omega, HN⟩
                    case measure => simp [intOf]; omega
                  · have hd0 : ((u : Int) - (v : Int)) ≠ 0 := by omega
                    have hd1 : ((u : Int) - (v : Int)) ≠ 1 := by omega
                    have hd2 : (0 : Int) ≤ (u : Int) - (v : Int) := by omega
                    have hd3 : (u : Int) - 1 = ((u - 1 : Nat) : Int) := by omega
                    rw [Tide.runTxt_two (show u - 1 ≠ v by omega)] at N2
                    have sz1 := Tide.decB_size (show v < 100 by omega)
                    have sz2 := Tide.decB_size (show u - 1 < 100 by omega)
                    clear huv
                    go_wp2_with fail
                    refine (itoaC v (by omega) _).mono ?_
                    rintro e w4 ⟨rfl, rfl⟩
                    have hsz1 : ((Tide.decB v).size : Int) ≤ 8388608 := by omega
                    have hsz3 : (Tide.decB v).size + (⟨#[45]⟩ : ByteArray).size ≤ 9223372036854775807 := by have : (⟨#[45]⟩ : ByteArray).size = 1 := rfl; omega
                    go_wp2_with fail
                    refine (itoaC (u - 1) (by omega) _).mono ?_
                    rintro e w4 ⟨rfl, rfl⟩
                    have hsz4 : (Tide.decB v ++ ⟨#[45]⟩).size + (Tide.decB (u - 1)).size ≤ 9223372036854775807 := by rw [ByteArray.size_append]; have : (⟨#[45]⟩ : ByteArray).size = 1 := rfl; omega
                    have HOx := Lib.hid (HRun.out.row.alloc (.cells #[.string (Tide.decB v ++ ⟨#[45]⟩ ++ Tide.decB (u - 1))] 9))
                    go_wp2_with (at_builtin; go_loud (refine wpList_append_lies _ (by rfl) (.tmp 52) (.tmp 60) 101 (by rfl) 0 9 it (.string ByteArray.empty) 1 16 Tryz.underlying101 hit hz0 hz1 hz2 rfl (by decide) (.slice A (Tide.txtsUp s lo hi v).length cap) _ _ rfl HOx.out.owns ⟨wr.heap.size, 0, none⟩ 1 1 [.string (Tide.decB v ++ ⟨#[45]⟩ ++ Tide.decB (u - 1))] rfl rfl (Tide.new_one rfl) (by simp [Value.oneCell']) (by decide) HM3.out HM4.out (Nat.zero_le _) _ rfl ?_))
                    intro b2 cap2 w5 hown hg ho hlt2
                    have HN := Lib.hid (HRun.out.app (N2.out hvu) N3.out N4.out hown hg ho hlt2)
                    have hlen : (Tide.txtsUp s lo hi (u + 1)).length = (Tide.txtsUp s lo hi v).length + 1 := by rw [N2.out hvu, List.length_append]; rfl
                    clear hown hg ho hlt2 HOx
                    go_wp2_with fail
                    go_roundw
                    case rel => exact ⟨u + 1, by go_num, by omega, by omega, HN⟩
                    case measure => simp [intOf]; omega
              · have i2 : (hi : Int) < (u : Int) := by omega
                clear hsb hgo huh
                by_cases huv : u = v
                · exact absurd i2 (by omega)
                · have hvu : v < u := by omega
                  by_cases hu1 : u = v + 1
                  · subst hu1
                    have hd : ((v + 1 : Nat) : Int) - (v : Int) = 1 := by omega
                    rw [show v + 1 - 1 = v from rfl, Tide.runTxt_one] at N2
                    clear huv
                    go_wp2_with fail
                    refine (itoaC v (by omega) _).mono ?_
                    rintro e w4 ⟨rfl, rfl⟩
                    have HOx := Lib.hid (HRun.out.row.alloc (.cells #[.string (Tide.decB v)] 9))
                    go_wp2_with (at_builtin; go_loud (refine wpList_append_lies _ (by rfl) (.tmp 66) (.tmp 69) 101 (by rfl) 0 9 it (.string ByteArray.empty) 1 16 Tryz.underlying101 hit hz0 hz1 hz2 rfl (by decide) (.slice A (Tide.txtsUp s lo hi v).length cap) _ _ rfl HOx.out.owns ⟨wr.heap.size, 0, none⟩ 1 1 [.string (Tide.decB v)] rfl rfl (Tide.new_one rfl) (by simp [Value.oneCell']) (by decide) HM3.out HM4.out (Nat.zero_le _) _ rfl ?_))
                    intro b2 cap2 w5 hown hg ho hlt2
                    have HN := Lib.hid (HRun.out.app (N2.out hvu) N3.out N4.out hown hg ho hlt2)
                    have hlen : (Tide.txtsUp s lo hi ((v + 1) + 1)).length = (Tide.txtsUp s lo hi v).length + 1 := by rw [N2.out hvu, List.length_append]; rfl
                    clear hown hg ho hlt2 HOx
                    go_wp2_with fail
                    go_roundw
                    case rel => exact ⟨(v + 1) + 1, by go_num, by omega, by omega, HN⟩
                    case measure => simp [intOf]; omega
                  · have hd0 : ((u : Int) - (v : Int)) ≠ 0 := by omega
                    have hd1 : ((u : Int) - (v : Int)) ≠ 1 := by omega
                    have hd2 : (0 : Int) ≤ (u : Int) - (v : Int) := by omega
                    have hd3 : (u : Int) - 1 = ((u - 1 : Nat) : Int) := by omega
                    rw [Tide.runTxt_two (show u - 1 ≠ v by omega)] at N2
                    have sz1 := Tide.decB_size (show v < 100 by omega)
                    have sz2 := Tide.decB_size (show u - 1 < 100 by omega)
                    clear huv
                    go_wp2_with fail
                    refine (itoaC v (by omega) _).mono ?_
                    rintro e w4 ⟨rfl, rfl⟩
                    have hsz1 : ((Tide.decB v).size : Int) ≤ 8388608 := by omega
                    have hsz3 : (Tide.decB v).size + (⟨#[45]⟩ : ByteArray).size ≤ 9223372036854775807 := by have : (⟨#[45]⟩ : ByteArray).size = 1 := rfl; omega
                    go_wp2_with fail
                    refine (itoaC (u - 1) (by omega) _).mono ?_
                    rintro e w4 ⟨rfl, rfl⟩
                    have hsz4 : (Tide.decB v ++ ⟨#[45]⟩).size + (Tide.decB (u - 1)).size ≤ 9223372036854775807 := by rw [ByteArray.size_append]; have : (⟨#[45]⟩ : ByteArray).size = 1 := rfl; omega
                    have HOx := Lib.hid (HRun.out.row.alloc (.cells #[.string (Tide.decB v ++ ⟨#[45]⟩ ++ Tide.decB (u - 1))] 9))
                    go_wp2_with (at_builtin; go_loud (refine wpList_append_lies _ (by rfl) (.tmp 52) (.tmp 60) 101 (by rfl) 0 9 it (.string ByteArray.empty) 1 16 Tryz.underlying101 hit hz0 hz1 hz2 rfl (by decide) (.slice A (Tide.txtsUp s lo hi v).length cap) _ _ rfl HOx.out.owns ⟨wr.heap.size, 0, none⟩ 1 1 [.string (Tide.decB v ++ ⟨#[45]⟩ ++ Tide.decB (u - 1))] rfl rfl (Tide.new_one rfl) (by simp [Value.oneCell']) (by decide) HM3.out HM4.out (Nat.zero_le _) _ rfl ?_))
                    intro b2 cap2 w5 hown hg ho hlt2
                    have HN := Lib.hid (HRun.out.app (N2.out hvu) N3.out N4.out hown hg ho hlt2)
                    have hlen : (Tide.txtsUp s lo hi (u + 1)).length = (Tide.txtsUp s lo hi v).length + 1 := by rw [N2.out hvu, List.length_append]; rfl
                    clear hown hg ho hlt2 HOx
                    go_wp2_with fail
                    go_roundw
                    case rel => exact ⟨u + 1, by go_num, by omega, by omega, HN⟩
                    case measure => simp [intOf]; omega
        · have hvh : (hi : Int) < (v : Int) := by omega
          have hfin := HRun.out.fin (by omega)
          have hsz := Tide.joinB_size 44 (k := 5) (Tide.txtsUp_size (s := s) (lo := lo) (v := hi + 1) (Nat.le_refl _) (show hi < 99 by omega))
          have hrow := HRun.out.row
          have HBl := Lib.hid HRun.out.st.below
          rw [hfin] at hrow hcA htl ⊢
          have htl2 : (Tide.txtsUp s lo hi (hi + 1)).length ≤ 62 := by omega
          clear hfin htl
          generalize Tide.txtsUp s lo hi (hi + 1) = D at hrow hsz HFin hcA htl2 ⊢
          have HSz := Lib.hid (show (Lib.join (D.map (·.data.toList)) [44]).length ≤ 140737488355328 by
            have e := Tide.ba_size (Tide.joinB 44 D)
            have e2 : (Tide.joinB 44 D).data.toList = Lib.join (D.map (·.data.toList)) [44] := rfl
            rw [e2] at e
            omega)
          clear hsz hlt HRun HM3 HM4
          by_cases hD : D.length = 0
          · obtain rfl : D = [] := List.eq_nil_of_length_eq_zero hD
            have HF := Lib.hid (fun W' hb => HFin.out W' hb)
            clear hrow
            go_wp2_with fail
            refine (Tryz.strings_Join_none _ _ _ _).mono ?_
            rintro e w4 ⟨rfl, rfl⟩
            go_wp2_with fail
            go_ret
            exact HF.out _ HBl.out
          · obtain ⟨b, cap', e, _, _, _, hr⟩ := hrow.form (by omega)
            cases e
            have HJ := Lib.hid (Tryz.strings_Join b 0 cap D ⟨#[44]⟩ wr (fun j x hx => by rw [Nat.zero_add]; exact hr.cell (by rw [List.getElem?_map, hx]; rfl)) hr.inside (by omega) hcA HSz.out)
            clear hr hrow
            go_wp2_with fail
            refine HJ.out.mono ?_
            rintro e w4 ⟨rfl, hb4⟩
            have HF := Lib.hid (HFin.out w4 (HBl.out.trans (hb4.mono HBl.out.size)))
            clear hb4
            go_wp2_with fail
            go_ret
            exact HF.out
end Go.Proofs.YtidonhndeohdlaaGreatDoor
