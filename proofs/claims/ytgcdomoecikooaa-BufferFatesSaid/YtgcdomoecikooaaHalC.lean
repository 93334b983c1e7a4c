/- The contracts of the reference's Hall: many, Ask, Next, Done. -/
import Derived.Test.YtgcdomoecikooaaBufI
import Derived.Test.YtgcdomoecikooaaInC
namespace Go.Proofs.Ytgcdomoecikooaa
open Go.RowKit
set_option linter.unusedVariables false

set_option maxRecDepth 100000 in
set_option maxHeartbeats 1600000 in
theorem halMany (S : Nat → Prop) (g : Nat) (v : Value) (l : List Tide.Req) (src fate : Int) (w : World) (h : BAt 47 S w g v l) (hsrc : -1 ≤ src) :
    Calls Try.prog 59 #[.pointer (some ⟨g, 0, none⟩), .int .i64 src, .int .i64 fate] w fun e w' => e = .returned (.int .i64 (Tide.countF src fate l)) ∧ w = w' := by
  obtain ⟨A, cap, rfl, _, _, _⟩ := h.row.slice
  have hc : w.cell? ⟨g, 0, none⟩ = some (.slice A l.length cap) := h.head.here rfl
  have hs := h.small
  have HH := Lib.hid h
  clear h
  go_enter Try.func59, Try.ntmps59
  go_wp2_with fail
  go_loop [7, 8] (fun n i => ∃ k : Nat, k ≤ l.length ∧ i = .int .i64 k ∧ n = .int .i64 (((l.take k).countP (Tide.hasF src fate) : Nat) : Int)) (fun _ i => l.length - (intOf i).toNat)
  case atStart => exact ⟨0, by omega, rfl, by simp⟩
  case round =>
    obtain ⟨k, hk, rfl, rfl⟩ := hrel
    by_cases hlt : k < l.length
    · obtain ⟨r, hr⟩ := Tide.get_some l hlt
      obtain ⟨b, cap', e, hS, _, _, hbl, c0, c1, c2, c3, c4, _⟩ := HH.out.req hr
      cases e
      have i0 : (0 : Int) ≤ (k : Int) := by omega
      have i1 : (k : Int) < (l.length : Int) := by omega
      have HC := Lib.hid (Tide.count_snoc (p := Tide.hasF src fate) hr)
      have hle : (l.take k).countP (Tide.hasF src fate) ≤ 200 := Nat.le_trans List.countP_le_length (by rw [List.length_take]; omega)
      generalize (l.take k).countP (Tide.hasF src fate) = N at HC hle ⊢
      have hle' : (N : Int) ≤ 200 := by omega
      clear hr hle
      by_cases hm : src = -1
      · subst hm
        cases hf : (r.fate == fate)
        · have HT := Lib.hid (show Tide.hasF (-1) fate r = false by unfold Tide.hasF; rw [hf]; rfl)
          go_wp2_with fail
          go_round
          case rel => exact ⟨k + 1, by omega, by go_num, by rw [HC.out, HT.out]; go_num⟩
          case measure => simp [intOf]; omega
        · have HT := Lib.hid (show Tide.hasF (-1) fate r = true by unfold Tide.hasF; rw [hf]; rfl)
          go_wp2_with fail
          go_round
          case rel => exact ⟨k + 1, by omega, by go_num, by rw [HC.out, HT.out]; go_num⟩
          case measure => simp [intOf]; omega
      · have hm1 : (src == -1) = false := by simp only [beq_eq_false_iff_ne]; exact hm
        have hm0 : ¬ src < 0 := by omega
        cases hg : (r.source == src)
        · have HT := Lib.hid (show Tide.hasF src fate r = false by unfold Tide.hasF; rw [hg]; simp [hm0])
          clear hm hm0
          go_wp2_with fail
          go_round
          case rel => exact ⟨k + 1, by omega, by go_num, by rw [HC.out, HT.out]; go_num⟩
          case measure => simp [intOf]; omega
        · cases hf : (r.fate == fate)
          · have HT := Lib.hid (show Tide.hasF src fate r = false by unfold Tide.hasF; rw [hf]; rfl)
            clear hm hm0
            go_wp2_with fail
            go_round
            case rel => exact ⟨k + 1, by omega, by go_num, by rw [HC.out, HT.out]; go_num⟩
            case measure => simp [intOf]; omega
          · have HT := Lib.hid (show Tide.hasF src fate r = true by unfold Tide.hasF; rw [hf, hg]; simp)
            clear hm hm0
            go_wp2_with fail
            go_round
            case rel => exact ⟨k + 1, by omega, by go_num, by rw [HC.out, HT.out]; go_num⟩
            case measure => simp [intOf]; omega
    · have hke : k = l.length := by omega
      subst hke
      rw [List.take_length]
      go_wp2_with fail
      go_ret
      exact ⟨rfl, rfl⟩

theorem drew_alloc_size (w : World) (o : Obj) : (w.alloc o).drew.heap.size = w.drew.heap.size + 1 := by
  show (w.alloc o).heap.size = w.heap.size + 1
  simp
/-- one contract for both Ins of Ask: what is in bounds is told -/
theorem refIn_any (n lo hi : Int) (w : World) : Calls Try.prog 58 #[.int .i64 n, .int .i64 lo, .int .i64 hi] w fun e w' => e = .returned (.bool (decide (lo ≤ n) && decide (n ≤ hi))) ∧ w = w' := by
  by_cases h : lo ≤ n ∧ n ≤ hi
  · refine (refIn_yes n lo hi w h.1 h.2).mono ?_
    rintro e w' ⟨rfl, rfl⟩
    exact ⟨by rw [decide_eq_true h.1, decide_eq_true h.2]; rfl, rfl⟩
  · refine (refIn_no n lo hi w (by omega)).mono ?_
    rintro e w' ⟨rfl, rfl⟩
    refine ⟨?_, rfl⟩
    have : (decide (lo ≤ n) && decide (n ≤ hi)) = false := by rw [← Bool.decide_and, decide_eq_false h]
    rw [this]
set_option maxRecDepth 100000 in
set_option maxHeartbeats 3200000 in
theorem halAsk (S : Nat → Prop) (g : Nat) (v : Value) (l : List Tide.Req) (now src ticks : Int) (w : World) (h : BAt 47 S w g v l) (hc1 : 0 ≤ src → Tide.countF src 1 l ≤ 20) (hc2 : Tide.countF (-1) 1 l ≤ 60) :
    Calls Try.prog 19 #[.pointer (some ⟨g, 0, none⟩), .int .i64 now, .int .i64 src, .int .i64 ticks] w (AskPost 47 S w g l now src ticks) := by
  obtain ⟨A, cap0, rfl, _, _, _⟩ := h.row.slice
  have hs := h.small
  have HH := Lib.hid h
  have HC1 := Lib.hid hc1; have HC2 := Lib.hid hc2
  clear h hc1 hc2
  by_cases q1 : now < 0 ∨ 1099511627776 < now
  · have HF := Lib.hid (ask_no (now := now) (src := src) (ticks := ticks) HH.out (Below.refl _ _) (x := 1) (by decide) (by unfold Tide.askErr; rw [if_pos (by omega)]))
    have Q := Lib.hid q1
    clear q1
    go_enter Try.func19, Try.ntmps19
    go_wp2_with fail
    refine (refIn_no _ _ _ _ Q.out).mono ?_
    rintro e w1 ⟨rfl, rfl⟩
    go_wp2_with fail
    go_ret2
    exact HF.out
  by_cases q2 : ticks < 1 ∨ 100000 < ticks
  · have HF := Lib.hid (ask_no (now := now) (src := src) (ticks := ticks) HH.out (Below.refl _ _) (x := 1) (by decide) (by unfold Tide.askErr; rw [if_pos (by omega)]))
    have Q := Lib.hid q2; have Q1 := Lib.hid q1
    clear q1 q2
    go_enter Try.func19, Try.ntmps19
    go_wp2_with fail
    refine (refIn_yes _ _ _ _ (by have := Q1.out; omega) (by have := Q1.out; omega)).mono ?_
    rintro e w1 ⟨rfl, rfl⟩
    go_wp2_with fail
    refine (refIn_no _ _ _ _ Q.out).mono ?_
    rintro e w1 ⟨rfl, rfl⟩
    go_wp2_with fail
    go_ret2
    exact HF.out
  by_cases q3 : src < 0 ∨ 5 < src
  · have HF := Lib.hid (ask_no (now := now) (src := src) (ticks := ticks) HH.out (Below.refl _ _) (x := 4) (by decide) (by unfold Tide.askErr; rw [if_neg (by omega), if_pos (by omega)]))
    have Q := Lib.hid q3; have Q1 := Lib.hid q1; have Q2 := Lib.hid q2
    clear q1 q2 q3
    go_enter Try.func19, Try.ntmps19
    go_wp2_with fail
    refine (refIn_yes _ _ _ _ (by have := Q1.out; omega) (by have := Q1.out; omega)).mono ?_
    rintro e w1 ⟨rfl, rfl⟩
    go_wp2_with fail
    refine (refIn_yes _ _ _ _ (by have := Q2.out; omega) (by have := Q2.out; omega)).mono ?_
    rintro e w1 ⟨rfl, rfl⟩
    go_wp2_with fail
    refine (refIn_no _ _ _ _ Q.out).mono ?_
    rintro e w1 ⟨rfl, rfl⟩
    go_wp2_with fail
    go_ret2
    exact HF.out
  have HE := Lib.hid (show Tide.askErr l now src ticks = if Tide.countF src 1 l = 20 ∨ Tide.countF (-1) 1 l = 60 ∨ l.length = 200 then 6 else 0 by unfold Tide.askErr; rw [if_neg (by omega), if_neg (by omega)])
  have Q3 := Lib.hid q3; have Q1 := Lib.hid q1; have Q2 := Lib.hid q2
  have hsum : IntKind.i64.wrap (now + ticks) = now + ticks := IntWalk.i64_in _ (by omega)
  have HSum := Lib.hid hsum
  have hlsum : IntKind.i64.wrap ((l.length : Int) + 1) = (l.length : Int) + 1 := IntWalk.i64_in _ (by omega)
  have HLSum := Lib.hid hlsum
  have hc : w.cell? ⟨g, 0, none⟩ = some (.slice A l.length cap0) := HH.out.head.here rfl
  have f0 := HH.out.head.soft 0
  have hgw : g < w.heap.size := HH.out.head.inside
  clear q1 q2 q3 hsum hlsum
  go_enter Try.func19, Try.ntmps19
  go_wp2_with fail
  refine (refIn_yes _ _ _ _ (by have := Q1.out; omega) (by have := Q1.out; omega)).mono ?_
  rintro e w1 ⟨rfl, rfl⟩
  go_wp2_with fail
  refine (refIn_yes _ _ _ _ (by have := Q2.out; omega) (by have := Q2.out; omega)).mono ?_
  rintro e w1 ⟨rfl, rfl⟩
  go_wp2_with fail
  refine (refIn_yes _ _ _ _ (by have := Q3.out; omega) (by have := Q3.out; omega)).mono ?_
  rintro e w1 ⟨rfl, rfl⟩
  go_wp2_with fail
  refine (halMany S g _ l src 1 _ HH.out (by have := Q3.out; omega)).mono ?_
  rintro e w1 ⟨rfl, rfl⟩
  have hc1 := HC1.out (by have := Q3.out; omega)
  generalize Tide.countF src 1 l = c1 at HE hc1 HC1 ⊢
  by_cases k1 : c1 = 20
  · have HF := Lib.hid (ask_no (now := now) (src := src) (ticks := ticks) HH.out (Below.refl _ _) (x := 6) (by decide) (by rw [HE.out, if_pos (.inl k1)]))
    subst k1
    go_wp2_with fail
    go_ret2
    exact HF.out
  have k1' : c1 < 20 := by omega
  go_wp2_with fail
  refine (halMany S g _ l (-1) 1 _ HH.out (by decide)).mono ?_
  rintro e w1 ⟨rfl, rfl⟩
  have hc2 := HC2.out
  generalize Tide.countF (-1) 1 l = c2 at HE hc2 HC2 ⊢
  by_cases k2 : c2 = 60
  · have HF := Lib.hid (ask_no (now := now) (src := src) (ticks := ticks) HH.out (Below.refl _ _) (x := 6) (by decide) (by rw [HE.out, if_pos (.inr (.inl k2))]))
    subst k2
    clear k1
    go_wp2_with fail
    go_ret2
    exact HF.out
  have k2' : c2 < 60 := by omega
  by_cases k3 : (l.length : Int) = 200
  · have HF := Lib.hid (ask_no (now := now) (src := src) (ticks := ticks) HH.out (Below.refl _ _) (x := 6) (by decide) (by rw [HE.out, if_pos (.inr (.inr (by omega)))]))
    clear k1 k2
    go_wp2_with fail
    go_ret2
    exact HF.out
  have HE0 := Lib.hid (show Tide.askErr l now src ticks = 0 by rw [HE.out, if_neg (by omega)])
  have hs' : (l.length : Int) < 200 := by omega
  have HL := Lib.hid (show l.length < 200 by omega)
  have hm3 := Lib.hid (show l.length + 1 ≤ maxLen by simp only [maxLen]; omega)
  have hm4 := Lib.hid (show (l.length + 1) * 40 ≤ 140737488355328 by omega)
  obtain ⟨i0, hi, hz0, hz1, hz2⟩ := info_parts info_req
  have hsum := HSum.out
  have hlsum := HLSum.out
  clear k1 k2 k3 HE HC1 HC2 hc1 hc2 HSum HLSum
  go_wp2_with fail
  go_region_law (refine step_append_lies _ (by rfl) (.tmp 42) (.tmp 54) 26 (by rfl) 0 42 i0 (.agg #[.int .i64 0, .int .i64 0, .int .i64 0, .int .i64 0, .int .i64 0]) 5 40 Try.underlying26 hi hz0 hz1 hz2 rfl (by decide) (.slice A l.length cap0) _ _ rfl (HH.out.alloc _).drew.row.owns ⟨w.heap.size, 0, none⟩ 1 1 [.int .i64 (l.length + 1), .int .i64 src, .int .i64 (now + ticks), .int .i64 1, .int .i64 0] rfl rfl (Tide.new_cells_at rfl) (by simp [Value.oneCell']) (by decide) hm3.out hm4.out (Nat.zero_le _) _ rfl ?_; intro b cap w3 hown hg ho hlt; obtain ⟨⟨d9, f9⟩, hA, hC⟩ := HH.out.drew.app (r := ⟨l.length + 1, src, now + ticks, 1, 0⟩) (by decide) HL.out hown hg (ho.imp id (fun e => e.trans (drew_alloc_size _ _))) hlt)
  all_goals
    have HF := Lib.hid (ask_yes (now := now) (src := src) (ticks := ticks) (w := w) (w1 := w.drew) (Below.refl _ _).drew hA hC (fun b hb => HH.out.lim b hb) HE0.out)
    have d0 := hA.head.here (i := 0) rfl
    clear hown hg ho hlt hA hC hc f0 d9 f9 hsum hlsum
    go_wp2_with fail
    go_ret2
    exact HF.out
end Go.Proofs.Ytgcdomoecikooaa
