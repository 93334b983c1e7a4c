/- The contract of Ask. -/
import Derived.Test.YtgcdomoecikooaaBufC
import Derived.Test.YtgcdomoecikooaaOpenRows
namespace Go.Proofs.Ytgcdomoecikooaa
open Go.RowKit
set_option linter.unusedVariables false

theorem buf_cells_in {w : World} {cs : Array Value} {T : TypeId} {H : Nat} (hH : w.heap.size = H) : ∀ (j : Nat) (u : Value), cs.toList[j]? = some u → (w.alloc (.cells cs T)).cell? ((⟨H, 0, none⟩ : Addr).add j) = some u := by
  subst hH; exact Tide.new_cells w cs T
/-- a request is appended -/
theorem BAt.app {T : TypeId} {S : Nat → Prop} {w w1 : World} {g b cap : Nat} {l : List Tide.Req} {v : Value} {r : Tide.Req} {o : Obj} (h : BAt T S w g v l) (hT : T ≠ 42) (hl : l.length < 200)
    (h1 : w1.ownsRow 0 42 5 (.slice (some ⟨b, 0, none⟩) (l.length + 1) cap) (l.length + 1) (l.flatMap Tide.Req.enc ++ r.enc)) (hg : (w.alloc o).grownBy w1 v.ownBlock) (ho : v.ownBlock = some b ∨ b = w.heap.size + 1) (hlt : b < w1.heap.size) :
    (w1.cell? ⟨g, 0, none⟩ = some v ∧ w1.frozen? ⟨g, 0, none⟩ = false) ∧
    BAt T (Tide.Plus S w (w1.setCell ⟨g, 0, none⟩ (.slice (some ⟨b, 0, none⟩) (l.length + 1) cap))) (w1.setCell ⟨g, 0, none⟩ (.slice (some ⟨b, 0, none⟩) (l.length + 1) cap)) g (.slice (some ⟨b, 0, none⟩) (l.length + 1) cap) (l ++ [r]) ∧
    Tide.Chg S w (w1.setCell ⟨g, 0, none⟩ (.slice (some ⟨b, 0, none⟩) (l.length + 1) cap)) := by
  have z : (w.alloc o).heap.size = w.heap.size + 1 := by simp
  obtain ⟨r1, r2⟩ := (h.row.alloc o).app h1 hg (ho.imp id (fun e => by rw [e, z])) hlt
  have hA := (h.head.alloc o).grown hg (fun e => h.row.apartAt h.head (Ne.symm hT) g e rfl)
  have z2 := r2.size
  have e1 : (l ++ [r]).length = l.length + 1 := by simp
  have e2 : (l ++ [r]).flatMap Tide.Req.enc = l.flatMap Tide.Req.enc ++ r.enc := by simp
  refine ⟨⟨hA.here rfl, hA.soft 0⟩, ⟨hA.put 0 _, ?_, .inl h.own, by rw [e1]; omega, fun c hb => ?_⟩, ((Tide.Chg.refl S w).alloc o).trans (r2.put (.inl h.own) _)⟩
  · rw [e1, e2]
    refine (r1.mono fun c hc hb => ?_).aside (p := ⟨g, 0, none⟩) (r1.apartAt hA (Ne.symm hT)) _
    rcases hb with hb | hb
    · exact .inl hb
    · exact .inr ⟨by omega, by rw [Tide.size_put]; exact hc⟩
  · rcases hb with hb | hb
    · have := h.lim c hb
      rw [Tide.size_put]; omega
    · exact hb.2

def AskPost (T : TypeId) (S : Nat → Prop) (w : World) (g : Nat) (l : List Tide.Req) (now src ticks : Int) (e : Ending) (w' : World) : Prop :=
  e = .returned (.tuple #[.int .i64 (Tide.askNum l now src ticks), .int .i64 (Tide.askErr l now src ticks)]) ∧ (∃ v, BAt T (Tide.Plus S w w') w' g v (Tide.askLst l now src ticks)) ∧ Tide.Chg S w w'
theorem ask_no {T : TypeId} {S : Nat → Prop} {w w' : World} {g : Nat} {v : Value} {l : List Tide.Req} {now src ticks x : Int} (h : BAt T S w g v l) (hb : Below w.heap.size w w') (hx : x ≠ 0) (he : Tide.askErr l now src ticks = x) : AskPost T S w g l now src ticks (.returned (.tuple #[.int .i64 0, .int .i64 x])) w' := by
  refine ⟨by unfold Tide.askNum; rw [he, if_neg hx], ⟨v, ?_⟩, Tide.Chg.of_below hb (Nat.le_refl _)⟩
  unfold Tide.askLst; rw [he, if_neg hx]
  exact (h.below hb).up
theorem ask_yes {T : TypeId} {S : Nat → Prop} {w w1 w' : World} {g : Nat} {v : Value} {l : List Tide.Req} {now src ticks : Int} (hb : Below w.heap.size w w1) (h : BAt T (Tide.Plus S w1 w') w' g v (l ++ [⟨l.length + 1, src, now + ticks, 1, 0⟩])) (hc : Tide.Chg S w1 w') (hl : ∀ b, S b → b < w.heap.size) (he : Tide.askErr l now src ticks = 0) : AskPost T S w g l now src ticks (.returned (.tuple #[.int .i64 (l.length + 1), .int .i64 0])) w' := by
  have z1 := hb.size; have z2 := hc.size
  refine ⟨by unfold Tide.askNum; rw [he, if_pos rfl], ⟨v, ?_⟩, (Tide.Chg.of_below hb (Nat.le_refl _)).trans hc⟩
  unfold Tide.askLst; rw [he, if_pos rfl]
  refine h.mono (fun c hc hb => ?_) (fun c hb => ?_)
  · rcases hb with hb | hb
    · exact .inl hb
    · exact .inr ⟨by omega, hb.2⟩
  · rcases hb with hb | hb
    · have := hl c hb; omega
    · exact hb.2
set_option maxRecDepth 100000 in
set_option maxHeartbeats 6400000 in
theorem bufAsk (S : Nat → Prop) (g : Nat) (v : Value) (l : List Tide.Req) (now src ticks : Int) (w : World) (h : BAt 74 S w g v l) :
    Calls Try.prog 11 #[.pointer (some ⟨g, 0, none⟩), .int .i64 now, .int .i64 src, .int .i64 ticks] w (AskPost 74 S w g l now src ticks) := by
  obtain ⟨A, cap0, rfl, _, _, _⟩ := h.row.slice
  have hs := h.small
  have HH := Lib.hid h
  clear h
  by_cases q1 : now < 0
  · have HF := Lib.hid (ask_no (now := now) (src := src) (ticks := ticks) HH.out (Below.refl _ _) (x := 1) (by decide) (by unfold Tide.askErr; rw [if_pos (by omega)]))
    go_enter Try.func11, Try.ntmps11
    go_wp2_with fail
    go_ret2
    exact HF.out
  by_cases q2 : 1099511627776 < now
  · have HF := Lib.hid (ask_no (now := now) (src := src) (ticks := ticks) HH.out (Below.refl _ _) (x := 1) (by decide) (by unfold Tide.askErr; rw [if_pos (by omega)]))
    have q1' : 0 ≤ now := by omega
    clear q1
    go_enter Try.func11, Try.ntmps11
    go_wp2_with fail
    go_ret2
    exact HF.out
  have q1' : 0 ≤ now := by omega
  have q2' : now ≤ 1099511627776 := by omega
  clear q1 q2
  by_cases q3 : ticks < 1
  · have HF := Lib.hid (ask_no (now := now) (src := src) (ticks := ticks) HH.out (Below.refl _ _) (x := 1) (by decide) (by unfold Tide.askErr; rw [if_pos (by omega)]))
    go_enter Try.func11, Try.ntmps11
    go_wp2_with fail
    go_ret2
    exact HF.out
  by_cases q4 : 100000 < ticks
  · have HF := Lib.hid (ask_no (now := now) (src := src) (ticks := ticks) HH.out (Below.refl _ _) (x := 1) (by decide) (by unfold Tide.askErr; rw [if_pos (by omega)]))
    have q3' : 1 ≤ ticks := by omega
    clear q3
    go_enter Try.func11, Try.ntmps11
    go_wp2_with fail
    go_ret2
    exact HF.out
  have q3' : 1 ≤ ticks := by omega
  have q4' : ticks ≤ 100000 := by omega
  clear q3 q4
  by_cases q5 : src < 0
  · have HF := Lib.hid (ask_no (now := now) (src := src) (ticks := ticks) HH.out (Below.refl _ _) (x := 4) (by decide) (by unfold Tide.askErr; rw [if_neg (by omega), if_pos (by omega)]))
    go_enter Try.func11, Try.ntmps11
    go_wp2_with fail
    go_ret2
    exact HF.out
  have q5' : 0 ≤ src := by omega
  clear q5
  by_cases q6 : 6 ≤ src
  · have HF := Lib.hid (ask_no (now := now) (src := src) (ticks := ticks) HH.out (Below.refl _ _) (x := 4) (by decide) (by unfold Tide.askErr; rw [if_neg (by omega), if_pos (by omega)]))
    go_enter Try.func11, Try.ntmps11
    go_wp2_with fail
    go_ret2
    exact HF.out
  have q6' : src < 6 := by omega
  clear q6
  have HE := Lib.hid (show Tide.askErr l now src ticks = if Tide.countF src 1 l = 20 ∨ Tide.countF (-1) 1 l = 60 ∨ l.length = 200 then 6 else 0 from by unfold Tide.askErr; rw [if_neg (by omega), if_neg (by omega)])
  obtain ⟨i0, hi, hz0, hz1, hz2⟩ := info_parts info_req
  go_enter Try.func11, Try.ntmps11
  go_wp2_with fail
  refine (bufCount S g _ l src 1 _ HH.out).mono ?_
  rintro e w1 ⟨rfl, hb1⟩
  have HB1 := Lib.hid hb1
  have HH1 := Lib.hid (HH.out.below hb1)
  clear hb1
  generalize Tide.countF src 1 l = c1 at HE ⊢
  by_cases k1 : c1 = 20
  · have HF := Lib.hid (ask_no (now := now) (src := src) (ticks := ticks) HH.out HB1.out (x := 6) (by decide) (by rw [HE.out, if_pos (.inl k1)]))
    subst k1
    go_wp2_with fail
    go_ret2
    exact HF.out
  go_wp2_with fail
  refine (bufCount S g _ l (-1) 1 _ HH1.out).mono ?_
  rintro e w2 ⟨rfl, hb2⟩
  have HB2 := Lib.hid (HB1.out.trans (hb2.mono HB1.out.size))
  have HH2 := Lib.hid (HH1.out.below hb2)
  clear hb2
  generalize Tide.countF (-1) 1 l = c2 at HE ⊢
  by_cases k2 : c2 = 60
  · have HF := Lib.hid (ask_no (now := now) (src := src) (ticks := ticks) HH.out HB2.out (x := 6) (by decide) (by rw [HE.out, if_pos (.inr (.inl k2))]))
    subst k2
    clear k1
    go_wp2_with fail
    go_ret2
    exact HF.out
  have hc : w2.cell? ⟨g, 0, none⟩ = some (.slice A l.length cap0) := HH2.out.head.here rfl
  by_cases k3 : (l.length : Int) = 200
  · have HF := Lib.hid (ask_no (now := now) (src := src) (ticks := ticks) HH.out HB2.out (x := 6) (by decide) (by rw [HE.out, if_pos (.inr (.inr (by omega)))]))
    clear k1
    go_wp2_with fail
    go_ret2
    exact HF.out
  have HE0 := Lib.hid (show Tide.askErr l now src ticks = 0 by rw [HE.out, if_neg (by omega)])
  have hs' : (l.length : Int) < 200 := by omega
  have HL := Lib.hid (show l.length < 200 by omega)
  have hm3 := Lib.hid (show l.length + 1 ≤ maxLen by simp only [maxLen]; omega)
  have hm4 := Lib.hid (show (l.length + 1) * 40 ≤ 140737488355328 by omega)
  have k3b : ((l.length : Int) == 200) = false := by simp only [beq_eq_false_iff_ne]; exact k3
  clear k1 HE k3
  go_wp2_with (at_builtin; refine wpList_append_lies _ (by rfl) (.tmp 57) (.tmp 64) 26 (by rfl) 0 42 i0 (.agg #[.int .i64 0, .int .i64 0, .int .i64 0, .int .i64 0, .int .i64 0]) 5 40 Try.underlying26 hi hz0 hz1 hz2 rfl (by decide) (.slice A l.length cap0) _ _ rfl (HH2.out.row.alloc _).owns ⟨w2.heap.size, 0, none⟩ 1 1 (Tide.Req.enc ⟨l.length + 1, src, now + ticks, 1, 0⟩) rfl rfl (buf_cells_in rfl) (by simp [Value.oneCell', Tide.Req.enc]) (by decide) hm3.out hm4.out (Nat.zero_le _) _ rfl ?_)
  intro b cap w3 hown hg ho hlt
  obtain ⟨⟨d9, f9⟩, hA, hC⟩ := HH2.out.app (by decide) HL.out hown hg ho hlt
  have HF := Lib.hid (ask_yes HB2.out hA hC (fun b hb => HH.out.lim b hb) HE0.out)
  clear hown hg ho hlt hA hC hc
  go_wp2_with fail
  go_ret2
  exact HF.out
end Go.Proofs.Ytgcdomoecikooaa
