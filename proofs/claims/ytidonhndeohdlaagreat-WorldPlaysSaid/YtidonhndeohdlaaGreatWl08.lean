/- Parts of this claim: HalC, HalD, HalE, NumR, CivS, NumL, CivT. -/
import Derived.Test.YtidonhndeohdlaaGreatWl06
set_option linter.unusedVariables false
set_option linter.unusedSimpArgs false
set_option maxRecDepth 100000
set_option maxHeartbeats 12800000
namespace Go.Proofs.YtidonhndeohdlaaGreat
open Go.RowKit
theorem halMany (S : Nat → Prop) (g : Nat) (v : Value) (l : List G.Req) (src fate : Int) (w : World) (h : BAt 82 S w g v l) (hsrc : -1 ≤ src) :
  Calls Tryz.prog 81 #[.pointer (some ⟨g, 0, none⟩), .int .i64 src, .int .i64 fate] w fun e w' => e = .returned (.int .i64 (G.countF src fate l)) ∧ w = w' := by
 obtain ⟨A, cap, rfl, _, _, _⟩ := h.row.slice
 have hc := h.head.here (i := 0) rfl
 have hs := h.small
 have HH := J h
 clear h
 go_enter Tryz.func81, Tryz.ntmps81
 go_wp2_with fail
 go_loop [7, 8] (fun n i => ∃ k : Nat, k ≤ l.length ∧ i = .int .i64 k ∧ n = .int .i64 (((l.take k).countP (G.hasF src fate) : Nat) : Int)) (fun _ i => l.length - (intOf i).toNat)
 case atStart => exact ⟨0, by omega, rfl, by simp⟩
 obtain ⟨k, hk, rfl, rfl⟩ := hrel
 by_cases hlt : k < l.length
 ·obtain ⟨r, hr⟩ := G.get_some l hlt
  obtain ⟨b, cap', e, hS, _, _, hbl, c0, c1, c2, c3, c4, _⟩ := HH.u.req hr
  cases e
  have i0 : (0 : Int) ≤ (k : Int) := by omega
  have i1 : (k : Int) < (l.length : Int) := by omega
  have HC := J (G.count_snoc (p := G.hasF src fate) hr)
  have hle : (l.take k).countP (G.hasF src fate) ≤ 200 := Nat.le_trans List.countP_le_length (by rw [List.length_take]; omega)
  generalize (l.take k).countP (G.hasF src fate) = N at HC hle ⊢
  have hle' : (N : Int) ≤ 200 := by omega
  clear hr hle
  by_cases hm : src = -1
  ·subst hm
   cases hf : (r.fate == fate)
   ·have HT := J (show G.hasF (-1) fate r = false by unfold G.hasF; rw [hf]; rfl)
    go_wp2_with fail
    go_round
    case rel => exact ⟨k + 1, by omega, by go_num, by rw [HC.u, HT.u]; go_num⟩
    case measure => simp [intOf]; omega
   have HT := J (show G.hasF (-1) fate r = true by unfold G.hasF; rw [hf]; rfl)
   go_wp2_with fail
   go_round
   case rel => exact ⟨k + 1, by omega, by go_num, by rw [HC.u, HT.u]; go_num⟩
   case measure => simp [intOf]; omega
  have hm1 : (src == -1) = false := by simp only [beq_eq_false_iff_ne]; exact hm
  have hm0 : ¬ src < 0 := by omega
  cases hg : (r.source == src)
  ·have HT := J (show G.hasF src fate r = false by unfold G.hasF; rw [hg]; simp [hm0])
   clear hm hm0
   go_wp2_with fail
   go_round
   case rel => exact ⟨k + 1, by omega, by go_num, by rw [HC.u, HT.u]; go_num⟩
   case measure => simp [intOf]; omega
  cases hf : (r.fate == fate)
  ·have HT := J (show G.hasF src fate r = false by unfold G.hasF; rw [hf]; rfl)
   clear hm hm0
   go_wp2_with fail
   go_round
   case rel => exact ⟨k + 1, by omega, by go_num, by rw [HC.u, HT.u]; go_num⟩
   case measure => simp [intOf]; omega
  have HT := J (show G.hasF src fate r = true by unfold G.hasF; rw [hf, hg]; simp)
  clear hm hm0
  go_wp2_with fail
  go_round
  case rel => exact ⟨k + 1, by omega, by go_num, by rw [HC.u, HT.u]; go_num⟩
  case measure => simp [intOf]; omega
 have hke : k = l.length := by omega
 subst hke
 rw [List.take_length]
 go_wp2_with fail
 go_ret
 exact ⟨rfl, rfl⟩
theorem drew_alloc_size (w : World) (o : Obj) : (w.alloc o).drew.heap.size = w.drew.heap.size + 1 := by
 show (w.alloc o).heap.size = w.heap.size + 1
 simp
theorem halAsk (S : Nat → Prop) (g : Nat) (v : Value) (l : List G.Req) (now src ticks : Int) (w : World) (h : BAt 82 S w g v l) (hc1 : 0 ≤ src → G.countF src 1 l ≤ 20) (hc2 : G.countF (-1) 1 l ≤ 60) :
  Calls Tryz.prog 41 #[.pointer (some ⟨g, 0, none⟩), .int .i64 now, .int .i64 src, .int .i64 ticks] w (AskPost 82 S w g l now src ticks) := by
 obtain ⟨A, cap0, rfl, _, _, _⟩ := h.row.slice
 have hs := h.small
 have HH := J h
 have HC1 := J hc1; have HC2 := J hc2
 clear h hc1 hc2
 by_cases q1 : now < 0 ∨ 1099511627776 < now
 ·have HF := J (ask_no (now := now) (src := src) (ticks := ticks) HH.u (Below.refl _ _) (x := 1) (by decide) (by unfold G.askErr; rw [if_pos (by omega)]))
  have Q := J q1
  clear q1
  go_enter Tryz.func41, Tryz.ntmps41
  go_wp2_with fail
  refine (refIn_no _ _ _ _ Q.u).mono ?_
  rintro e w1 ⟨rfl, rfl⟩
  go_wp2_with fail
  go_ret2
  exact HF.u
 by_cases q2 : ticks < 1 ∨ 100000 < ticks
 ·have HF := J (ask_no (now := now) (src := src) (ticks := ticks) HH.u (Below.refl _ _) (x := 1) (by decide) (by unfold G.askErr; rw [if_pos (by omega)]))
  have Q := J q2; have Q1 := J q1
  clear q1 q2
  go_enter Tryz.func41, Tryz.ntmps41
  go_wp2_with fail
  refine (refIn_yes _ _ _ _ (by have := Q1.u; omega) (by have := Q1.u; omega)).mono ?_
  rintro e w1 ⟨rfl, rfl⟩
  go_wp2_with fail
  refine (refIn_no _ _ _ _ Q.u).mono ?_
  rintro e w1 ⟨rfl, rfl⟩
  go_wp2_with fail
  go_ret2
  exact HF.u
 by_cases q3 : src < 0 ∨ 5 < src
 ·have HF := J (ask_no (now := now) (src := src) (ticks := ticks) HH.u (Below.refl _ _) (x := 4) (by decide) (by unfold G.askErr; rw [if_neg (by omega), if_pos (by omega)]))
  have Q := J q3; have Q1 := J q1; have Q2 := J q2
  clear q1 q2 q3
  go_enter Tryz.func41, Tryz.ntmps41
  go_wp2_with fail
  refine (refIn_yes _ _ _ _ (by have := Q1.u; omega) (by have := Q1.u; omega)).mono ?_
  rintro e w1 ⟨rfl, rfl⟩
  go_wp2_with fail
  refine (refIn_yes _ _ _ _ (by have := Q2.u; omega) (by have := Q2.u; omega)).mono ?_
  rintro e w1 ⟨rfl, rfl⟩
  go_wp2_with fail
  refine (refIn_no _ _ _ _ Q.u).mono ?_
  rintro e w1 ⟨rfl, rfl⟩
  go_wp2_with fail
  go_ret2
  exact HF.u
 have HE := J (show G.askErr l now src ticks = if G.countF src 1 l = 20 ∨ G.countF (-1) 1 l = 60 ∨ l.length = 200 then 6 else 0 by unfold G.askErr; rw [if_neg (by omega), if_neg (by omega)])
 have Q3 := J q3; have Q1 := J q1; have Q2 := J q2
 have hsum : IntKind.i64.wrap (now + ticks) = now + ticks := IntWalk.i64_in _ (by omega)
 have HSum := J hsum
 have hlsum : IntKind.i64.wrap ((l.length : Int) + 1) = (l.length : Int) + 1 := IntWalk.i64_in _ (by omega)
 have HLSum := J hlsum
 have hc := HH.u.head.here (i := 0) rfl
 have f0 := HH.u.head.soft 0
 have hgw : g < w.heap.size := HH.u.head.inside
 clear q1 q2 q3 hsum hlsum
 go_enter Tryz.func41, Tryz.ntmps41
 go_wp2_with fail
 refine (refIn_yes _ _ _ _ (by have := Q1.u; omega) (by have := Q1.u; omega)).mono ?_
 rintro e w1 ⟨rfl, rfl⟩
 go_wp2_with fail
 refine (refIn_yes _ _ _ _ (by have := Q2.u; omega) (by have := Q2.u; omega)).mono ?_
 rintro e w1 ⟨rfl, rfl⟩
 go_wp2_with fail
 refine (refIn_yes _ _ _ _ (by have := Q3.u; omega) (by have := Q3.u; omega)).mono ?_
 rintro e w1 ⟨rfl, rfl⟩
 go_wp2_with fail
 refine (halMany S g _ l src 1 _ HH.u (by have := Q3.u; omega)).mono ?_
 rintro e w1 ⟨rfl, rfl⟩
 have hc1 := HC1.u (by have := Q3.u; omega)
 generalize G.countF src 1 l = c1 at HE hc1 HC1 ⊢
 by_cases k1 : c1 = 20
 ·have HF := J (ask_no (now := now) (src := src) (ticks := ticks) HH.u (Below.refl _ _) (x := 6) (by decide) (by rw [HE.u, if_pos (.inl k1)]))
  subst k1
  go_wp2_with fail
  go_ret2
  exact HF.u
 have k1' : c1 < 20 := by omega
 go_wp2_with fail
 refine (halMany S g _ l (-1) 1 _ HH.u (by decide)).mono ?_
 rintro e w1 ⟨rfl, rfl⟩
 have hc2 := HC2.u
 generalize G.countF (-1) 1 l = c2 at HE hc2 HC2 ⊢
 by_cases k2 : c2 = 60
 ·have HF := J (ask_no (now := now) (src := src) (ticks := ticks) HH.u (Below.refl _ _) (x := 6) (by decide) (by rw [HE.u, if_pos (.inr (.inl k2))]))
  subst k2
  clear k1
  go_wp2_with fail
  go_ret2
  exact HF.u
 have k2' : c2 < 60 := by omega
 by_cases k3 : (l.length : Int) = 200
 ·have HF := J (ask_no (now := now) (src := src) (ticks := ticks) HH.u (Below.refl _ _) (x := 6) (by decide) (by rw [HE.u, if_pos (.inr (.inr (by omega)))]))
  clear k1 k2
  go_wp2_with fail
  go_ret2
  exact HF.u
 have HE0 := J (show G.askErr l now src ticks = 0 by rw [HE.u, if_neg (by omega)])
 have hs' : (l.length : Int) < 200 := by omega
 have HL := J (show l.length < 200 by omega)
 have hm3 := J (show l.length + 1 ≤ maxLen by simp only [maxLen]; omega)
 have hm4 := J (show (l.length + 1) * 40 ≤ 140737488355328 by omega)
 obtain ⟨i0, hi, hz0, hz1, hz2⟩ := info_parts info_req
 have hsum := HSum.u
 have hlsum := HLSum.u
 clear k1 k2 k3 HE HC1 HC2 hc1 hc2 HSum HLSum
 go_wp2_with fail
 go_region_law (refine step_append_lies _ (by rfl) (.tmp 42) (.tmp 54) 80 (by rfl) 0 105 i0 (.agg #[.int .i64 0, .int .i64 0, .int .i64 0, .int .i64 0, .int .i64 0]) 5 40 Tryz.underlying80 hi hz0 hz1 hz2 rfl (by decide) (.slice A l.length cap0) _ _ rfl (HH.u.alloc _).drew.row.owns ⟨w.heap.size, 0, none⟩ 1 1 [.int .i64 (l.length + 1), .int .i64 src, .int .i64 (now + ticks), .int .i64 1, .int .i64 0] rfl rfl (G.new_cells_at rfl) (by simp [Value.oneCell']) (by decide) hm3.u hm4.u (Nat.zero_le _) _ rfl ?_; intro b cap w3 hown hg ho hlt; obtain ⟨⟨d9, f9⟩, hA, hC⟩ := HH.u.drew.app (r := ⟨l.length + 1, src, now + ticks, 1, 0⟩) (by decide) HL.u hown hg (ho.imp id (fun e => e.trans (drew_alloc_size _ _))) hlt)
 all_goals
  have HF := J (ask_yes (now := now) (src := src) (ticks := ticks) (w := w) (w1 := w.drew) (Below.refl _ _).drew hA hC (fun b hb => HH.u.lim b hb) HE0.u)
  have d0 := hA.head.here (i := 0) rfl
  clear hown hg ho hlt hA hC hc f0 d9 f9 hsum hlsum
  go_wp2_with fail
  go_ret2
  exact HF.u
open Go.RowKit
theorem nextH_some {l : List G.Req} {i : Nat} (h : G.firstAt (G.freeF l) l = some i) : G.nextH l = (i : Int) + 1 := by unfold G.nextH; rw [h]
theorem nextH_none {l : List G.Req} (h : G.firstAt (G.freeF l) l = none) : G.nextH l = 0 := by unfold G.nextH; rw [h]
theorem halNext (S : Nat → Prop) (g : Nat) (v : Value) (l : List G.Req) (w : World) (h : BAt 82 S w g v l) (hn : G.Numbered l) :
  Calls Tryz.prog 89 #[.pointer (some ⟨g, 0, none⟩)] w fun e w' => e = .returned (.tuple #[.int .i64 (G.nextH l), .bool (decide (0 < G.nextH l))]) ∧ w = w' := by
 obtain ⟨A, cap, rfl, _, _, _⟩ := h.row.slice
 have hc := h.head.here (i := 0) rfl
 have hs := h.small
 have HH := J h
 have HN := J hn
 clear h hn
 go_enter Tryz.func89, Tryz.ntmps89
 go_wp2_with fail
 go_loop [4] (fun i => ∃ k : Nat, k ≤ l.length ∧ i = .int .i64 k ∧ Hid (∀ (t : Nat) (b : G.Req), t < k → l[t]? = some b → G.freeF l b = false)) (fun i => l.length - (intOf i).toNat)
 case atStart => exact ⟨0, by omega, rfl, J (fun t b ht => by omega)⟩
 obtain ⟨k, hk, rfl, hno⟩ := hrel
 by_cases hlt : k < l.length
 ·obtain ⟨r, hr⟩ := G.get_some l hlt
  obtain ⟨b, cap', e, hS, _, _, hbl, c0, c1, c2, c3, c4, _⟩ := HH.u.req hr
  cases e
  have i0 : (0 : Int) ≤ (k : Int) := by omega
  have i1 : (k : Int) < (l.length : Int) := by omega
  have HR := J hr
  have hsrc := J (HN.u k r hr).2.1
  clear hr
  have HNo := J (show G.freeF l r = false → ∀ (t : Nat) (b : G.Req), t < k + 1 → l[t]? = some b → G.freeF l b = false from fun hw t b ht hb => by
   rcases Nat.lt_succ_iff_lt_or_eq.mp ht with h | h
   ·exact hno.u t b h hb
   subst h; rw [HR.u] at hb; cases hb; exact hw)
  cases hf : (r.fate == 1)
  ·have HX := J (HNo.u (by unfold G.freeF; rw [hf]; rfl))
   clear hno
   go_wp2_with fail
   go_round
   case rel => exact ⟨k + 1, by omega, by go_num, HX⟩
   case measure => simp [intOf]; omega
  go_wp2_with fail
  refine (halMany S g _ l r.source 2 _ HH.u (by have := hsrc.u; omega)).mono ?_
  rintro e w1 ⟨rfl, rfl⟩
  have HU := J (show G.freeF l r = (G.countF r.source 2 l == 0) by unfold G.freeF; rw [hf]; rfl)
  generalize G.countF r.source 2 l = c at HU ⊢
  cases hz : (c == 0)
  ·have HX := J (HNo.u (by rw [HU.u, hz]))
   clear hno
   go_wp2_with fail
   go_round
   case rel => exact ⟨k + 1, by omega, by go_num, HX⟩
   case measure => simp [intOf]; omega
  have HX := J (nextH_some (G.firstAt_some hno.u HR.u (by rw [HU.u, hz])))
  clear hno
  go_wp2_with fail
  go_ret2
  have e2 : decide (0 < (k : Int) + 1) = true := decide_eq_true (by omega)
  exact ⟨by rw [HX.u, e2] <;> rfl, rfl⟩
 have hke : k = l.length := by omega
 have HX := J (nextH_none (G.firstAt_none fun t b hb => hno.u t b (by rw [hke]; exact G.get_lt hb) hb))
 clear hno hke
 go_wp2_with fail
 go_ret2
 exact ⟨by rw [HX.u] <;> rfl, rfl⟩
theorem any_snoc {p : G.Req → Bool} {l : List G.Req} {k : Nat} {a : G.Req} (h : l[k]? = some a) : (l.take (k + 1)).any p = ((l.take k).any p || p a) := by
 rw [G.take_of_get h, List.any_append]; simp
theorem halRun (S : Nat → Prop) (g : Nat) (v : Value) (l : List G.Req) (id pod : Int) (w : World) (h : BAt 82 S w g v l) (hn : G.Numbered l) :
  Calls Tryz.prog 91 #[.pointer (some ⟨g, 0, none⟩), .int .i64 id, .int .i64 pod] w (RunPost 82 S w g l id pod) := by
 obtain ⟨A, cap, rfl, _, _, _⟩ := h.row.slice
 have hc := h.head.here (i := 0) rfl
 have hs := h.small
 have HH := J h
 have HN := J hn
 clear h hn
 cases hq : G.reqAt l id with
 | none =>
  have HF := J (show RunPost 82 S w g l id pod (.returned (.int .i64 4)) w from ⟨by unfold G.runErr; rw [hq], ⟨_, by unfold G.runLst; rw [hq]; exact HH.u⟩, G.Chg.refl _ _⟩)
  have HQ := J (reqAt_none hq)
  clear hq
  go_enter Tryz.func91, Tryz.ntmps91
  go_wp2_with fail
  refine (refIn_no _ _ _ _ HQ.u).mono ?_
  rintro e w1 ⟨rfl, rfl⟩
  go_wp2_with fail
  go_ret
  exact HF.u
 | some r =>
  obtain ⟨K, rfl, hr⟩ := reqAt_some hq
  obtain ⟨b, cap', e, hS, _, _, hbl, c0, c1, c2, c3, c4, fz⟩ := HH.u.req hr
  cases e
  have hkl := G.get_lt hr
  have HR := J hr; have HQ := J hq; have HK := J hkl
  have HI := J (G.firstN_is HN.u hr)
  have i0 : (0 : Int) ≤ (K : Int) := by omega
  have i1 : (K : Int) < (l.length : Int) := by omega
  have i2 : (1 : Int) ≤ (K : Int) + 1 := by omega
  have i3 : (K : Int) + 1 ≤ (l.length : Int) := by omega
  have hsrc := J (HN.u K r hr).2.1
  clear hr hq hkl c0 c2 c4 fz hbl
  go_enter Tryz.func91, Tryz.ntmps91
  go_wp2_with fail
  refine (refIn_yes _ _ _ _ i2 i3).mono ?_
  rintro e w1 ⟨rfl, rfl⟩
  have HU := J (show G.freeF l r = ((r.fate == 1) && (G.countF r.source 2 l == 0)) from rfl)
  have HL : ∀ B : Bool, Hid (G.freeF l r = B) → Hid (B = true → G.freeF l r = true) := fun B h => J (fun e => h.u.trans e)
  obtain ⟨B, HB⟩ : ∃ B, Hid (G.freeF l r = B) := ⟨_, J rfl⟩
  clear HL
  cases hf : (r.fate == 1)
  case' false =>
   obtain rfl : B = false := HB.u.symm.trans (by rw [HU.u, hf]; rfl)
   clear HU
   go_wp2_with fail
   clear hf
  case' true =>
   go_wp2_with fail
   refine (halMany S g _ l r.source 2 _ HH.u (by have := hsrc.u; omega)).mono ?_
   rintro e w1 ⟨rfl, rfl⟩
   obtain rfl : B = (G.countF r.source 2 l == 0) := HB.u.symm.trans (by rw [HU.u, hf]; rfl)
   clear HU hf
   generalize G.countF r.source 2 l = c at HB ⊢
   go_wp2_with fail
  all_goals
   go_loopw [8, 9] (fun o i wr => ∃ k : Nat, k ≤ K ∧ i = .int .i64 k ∧ o = .bool (G.freeF l r && !((l.take k).any (G.waitsOf r.source))) ∧ G.Chg (fun _ => False) w wr) (fun _ i _ => K - (intOf i).toNat)
   case atStart => exact ⟨0, by omega, rfl, by rw [HB.u]; simp, G.Chg.refl _ _⟩
   clear hc c1 c3
   obtain ⟨k, hk, rfl, rfl, hch⟩ := hrel
   have HCh := J hch
   have HW := J (HH.u.chg hch (fun _ _ h => h))
   clear hch
   by_cases hlt : k < K
   ·have HKl := J (show k < l.length by have := HK.u; omega)
    obtain ⟨q, hq⟩ := G.get_some l HKl.u
    obtain ⟨b', cap', e, _, _, _, _, d0, d1, d2, d3, d4, _⟩ := HW.u.req hq
    cases e
    obtain ⟨b', cap', e, _, _, _, _, c0, c1, c2, c3, c4, _⟩ := HW.u.req HR.u
    cases e
    have hc := HW.u.head.here (i := 0) rfl
    have HA := J (any_snoc (p := G.waitsOf r.source) hq)
    have j0 : (0 : Int) ≤ (k : Int) := by omega
    have j1 : (k : Int) < (l.length : Int) := by omega
    have j2 : (k : Int) < (K : Int) := by omega
    clear hq d0 d2 d4 c0 c2 c3 c4 HKl
    generalize (l.take k).any (G.waitsOf r.source) = y at HA ⊢
    generalize G.freeF l r = z at HB HI ⊢
    cases hok : (z && !y)
    ·have HX := J (show (z && !(y || G.waitsOf r.source q)) = false by cases z <;> cases y <;> simp_all)
     clear hok
     go_wp2_with fail
     go_quiet (fail)
     go_wp2_with fail
     go_roundw
     case rel => exact ⟨k + 1, by omega, by go_num, by rw [HA.u, HX.u], HCh.u.drewN _⟩
     case measure => simp [intOf]; omega
    cases hs1 : (q.source == r.source)
    ·have HX := J (show (z && !(y || G.waitsOf r.source q)) = true by unfold G.waitsOf; rw [hs1]; cases z <;> cases y <;> simp_all)
     clear hok
     go_wp2_with fail
     go_quiet (fail)
     go_wp2_with fail
     go_roundw
     case rel => exact ⟨k + 1, by omega, by go_num, by rw [HA.u, HX.u], HCh.u.drewN _⟩
     case measure => simp [intOf]; omega
    cases hs2 : (q.fate == 1)
    ·have HX := J (show (z && !(y || G.waitsOf r.source q)) = true by unfold G.waitsOf; rw [hs1, hs2]; cases z <;> cases y <;> simp_all)
     clear hok
     go_wp2_with fail
     go_quiet (fail)
     go_wp2_with fail
     go_roundw
     case rel => exact ⟨k + 1, by omega, by go_num, by rw [HA.u, HX.u], HCh.u.drewN _⟩
     case measure => simp [intOf]; omega
    have HX := J (show (z && !(y || G.waitsOf r.source q)) = false by unfold G.waitsOf; rw [hs1, hs2]; cases z <;> cases y <;> simp_all)
    clear hok
    go_wp2_with fail
    go_quiet (fail)
    go_wp2_with fail
    go_roundw
    case rel => exact ⟨k + 1, by omega, by go_num, by rw [HA.u, HX.u], HCh.u.drewN _⟩
    case measure => simp [intOf]; omega
   have hke : k = K := by omega
   subst hke
   have HI2 := J HI.u
   clear hlt hk
   cases hok : (G.freeF l r && !((l.take k).any (G.waitsOf r.source)))
   ·have hf : ¬ G.firstN l r.source = (k : Int) + 1 := fun e => by have := HI2.u.1 e; rw [hok] at this; cases this
    have HF := J (show RunPost 82 S w g l ((k : Int) + 1) pod (.returned (.int .i64 7)) wr from ⟨by unfold G.runErr; rw [HQ.u]; simp only; rw [if_neg hf], ⟨_, by unfold G.runLst; rw [HQ.u]; simp only; rw [if_neg hf]; exact HW.u⟩, HCh.u.mono (fun _ _ h => h.elim)⟩)
    clear hf hok
    go_wp2_with fail
    go_ret
    exact HF.u
   have HFi := J (HI2.u.2 hok)
   obtain ⟨b', cap', e, _, _, _, _, c0, c1, c2, c3, c4, fz⟩ := HW.u.req HR.u
   cases e
   have f3 := fz (k * 5 + 3); have f4 := fz (k * 5 + 4)
   clear fz c0 c1 c2 hok
   go_wp2_with fail
   go_ret
   obtain ⟨p1, p2⟩ := HW.u.put (by decide) (k := k) (j := 3) (r' := { r with fate := 2 }) (u := .int .i64 2) HR.u (by decide) rfl
   obtain ⟨p3, p4⟩ := p1.put (by decide) (k := k) (j := 4) (r' := { r with fate := 2, pod := pod }) (u := .int .i64 pod) (List.getElem?_set_self HK.u) (by decide) rfl
   rw [List.set_set] at p3
   refine ⟨?_, ⟨.slice (some ⟨b, 0, none⟩) l.length cap, ?_⟩, ((HCh.u.mono (fun _ _ h => h.elim)).trans p2).trans p4⟩
   ·unfold G.runErr; rw [HQ.u]; simp only; rw [if_pos HFi.u]; rfl
   unfold G.runLst; rw [HQ.u]; simp only; rw [if_pos HFi.u, show ((k : Int) + 1 - 1).toNat = k by omega]; exact p3
theorem halDone (S : Nat → Prop) (g : Nat) (v : Value) (l : List G.Req) (id : Int) (w : World) (h : BAt 82 S w g v l) :
  Calls Tryz.prog 42 #[.pointer (some ⟨g, 0, none⟩), .int .i64 id] w (DonePost 82 S w g l id) := by
 obtain ⟨A, cap, rfl, _, _, _⟩ := h.row.slice
 have hc := h.head.here (i := 0) rfl
 have hs := h.small
 have HH := J h
 clear h
 cases hq : G.reqAt l id with
 | none =>
  have HF := J (show DonePost 82 S w g l id (.returned (.tuple #[.int .i64 0, .int .i64 4])) w from ⟨by unfold G.doneErr G.doneNum; rw [hq], ⟨_, by unfold G.doneLst; rw [hq]; exact HH.u⟩, G.Chg.refl _ _⟩)
  have HQ := J (reqAt_none hq)
  clear hq
  go_enter Tryz.func42, Tryz.ntmps42
  go_wp2_with fail
  refine (refIn_no _ _ _ _ HQ.u).mono ?_
  rintro e w1 ⟨rfl, rfl⟩
  go_wp2_with fail
  go_ret2
  exact HF.u
 | some r =>
  obtain ⟨k, rfl, hr⟩ := reqAt_some hq
  obtain ⟨b, cap', e, hS, _, _, hbl, c0, c1, c2, c3, c4, fz⟩ := HH.u.req hr
  cases e
  have hkl := G.get_lt hr
  have f3 := fz (k * 5 + 3)
  have HR := J hr; have HQ := J hq; have HK := J hkl
  have i0 : (0 : Int) ≤ (k : Int) := by omega
  have i1 : (k : Int) < (l.length : Int) := by omega
  have i2 : (1 : Int) ≤ (k : Int) + 1 := by omega
  have i3 : (k : Int) + 1 ≤ (l.length : Int) := by omega
  have hgb := J (HH.u.apart (by decide) b rfl)
  clear hr hq hkl c0 c1 c2 fz hbl
  by_cases hf : r.fate = 2
  ·have HF := J hf
   obtain ⟨p1, p2⟩ := HH.u.put (by decide) (k := k) (j := 3) (r' := { r with fate := 3 }) (u := .int .i64 3) HR.u (by decide) rfl
   have hc2 : (w.setCell ⟨b, k * 5 + 3, none⟩ (.int .i64 3)).cell? ⟨g, 0, none⟩ = some (.slice (some ⟨b, 0, none⟩) l.length cap) := p1.head.here rfl
   obtain ⟨b', cap', e, _, _, _, _, d0, d1, d2, d3, d4, _⟩ := p1.req (List.getElem?_set_self HK.u)
   rw [List.length_set] at e
   cases e
   have P1 := J p1; have P2 := J p2
   rw [hf] at c3
   clear hf p1 p2 d0 d1 d2 d3
   go_enter Tryz.func42, Tryz.ntmps42
   go_wp2_with fail
   refine (refIn_yes _ _ _ _ i2 i3).mono ?_
   rintro e w1 ⟨rfl, rfl⟩
   go_wp2_with fail
   go_ret2
   refine ⟨?_, ⟨.slice (some ⟨b, 0, none⟩) l.length cap, ?_⟩, P2.u⟩
   ·unfold G.doneErr G.doneNum; rw [HQ.u]; simp only; rw [if_pos HF.u, if_pos HF.u]; rfl
   unfold G.doneLst; rw [HQ.u]; simp only; rw [if_pos HF.u, show ((k : Int) + 1 - 1).toNat = k by omega]; exact P1.u
  have HF := J (show DonePost 82 S w g l ((k : Int) + 1) (.returned (.tuple #[.int .i64 0, .int .i64 7])) w from ⟨by unfold G.doneErr G.doneNum; rw [HQ.u]; simp only; rw [if_neg hf, if_neg hf], ⟨_, by unfold G.doneLst; rw [HQ.u]; simp only; rw [if_neg hf]; exact HH.u⟩, G.Chg.refl _ _⟩)
  have hf3 : (r.fate == 2) = false := by simp only [beq_eq_false_iff_ne]; exact hf
  go_enter Tryz.func42, Tryz.ntmps42
  go_wp2_with fail
  refine (refIn_yes _ _ _ _ i2 i3).mono ?_
  rintro e w1 ⟨rfl, rfl⟩
  go_wp2_with fail
  go_ret2
  exact HF.u
open Go.RowKit
theorem end_inj {T : TypeId} {S : Nat → Prop} {w w' : World} {g : Nat} {v o : Value} {l : List G.Req} {p : G.Req → Bool} {fate : Int} (h : EndPost T S w g v l p fate (.returned o) w') :
  G.OwnRow (fun b => w.heap.size ≤ b) w' 3 1 o (G.idsF p l).length ((G.idsF p l).map (.int .i64)) ∧ BAt T S w' g v (l.map (G.setF p fate)) ∧ G.Chg S w w' := by
 obtain ⟨v', e, h1⟩ := h
 cases e
 exact h1
theorem late_end {T : TypeId} {S : Nat → Prop} {w w' : World} {g : Nat} {v v' : Value} {l : List G.Req} {now : Int} (x0 : 0 ≤ now) (x1 : now ≤ 1099511627776) (h : EndPost T S w g v l (G.isLate now) 4 (.returned v') w') : LatePost T S w g v l now (.returned (.tuple #[v', .int .i64 0])) w' := by
 obtain ⟨h1, h2, h3⟩ := end_inj h
 have hn : G.timeOk now = true := by unfold G.timeOk; simp; omega
 refine ⟨v', by unfold G.lateErr; rw [hn]; rfl, ?_, ?_, h3⟩
 ·unfold G.lateIds; rw [hn]; exact h1
 unfold G.lateLst; rw [hn]; exact h2
theorem lost_end {T : TypeId} {S : Nat → Prop} {w w' : World} {g : Nat} {v v' : Value} {l : List G.Req} {pod : Int} (h : EndPost T S w g v l (G.isLost pod) 5 (.returned v') w') : LostPost T S w g v l pod (.returned v') w' := by
 obtain ⟨h1, h2, h3⟩ := end_inj h
 exact ⟨v', rfl, h1, h2, h3⟩
/- the reference's Late -/
theorem halLate_in (S : Nat → Prop) (g : Nat) (v : Value) (l : List G.Req) (x : Int) (w : World) (h : BAt 82 S w g v l) (hn : G.Numbered l) (x0 : 0 ≤ x) (x1 : x ≤ 1099511627776) :
  Calls Tryz.prog 78 #[.pointer (some ⟨g, 0, none⟩), .int .i64 x] w (LatePost 82 S w g v l x) := by
 obtain ⟨A, cap0, rfl, _, _, _⟩ := h.row.slice
 have hc := h.head.here (i := 0) rfl
 have hs := h.small
 have HH := J h; have HN := J hn
 clear h hn
 obtain ⟨i0, hi, hz0, hz1, hz2⟩ := info_parts bufInt_info
 go_enter Tryz.func78, Tryz.ntmps78
 go_wp2_with fail
 refine (refIn_yes _ _ _ _ x0 x1).mono ?_; rintro e w1 ⟨rfl, rfl⟩; go_wp2_with fail
 go_loopw [6, 7] (fun o i wr => ∃ k : Nat, k ≤ l.length ∧ i = .int .i64 k ∧ EndRun 82 S w wr g (.slice A l.length cap0) l (G.isLate x) 4 k o) (fun _ i _ => l.length - (intOf i).toNat)
 case atStart => exact ⟨0, by omega, rfl, EndRun.start HH.u⟩
 clear hc
 obtain ⟨k, hk, rfl, hr0⟩ := hrel
 obtain ⟨A7, c7, rfl, _, _, _⟩ := EndMid.u hr0 |>.slice
 have HR0 := J hr0
 have hc := HR0.u.buf.head.here (i := 0) rfl
 clear hr0
 by_cases hlt : k < l.length
 ·obtain ⟨r, hr⟩ := G.get_some l hlt
  obtain ⟨b, cap', e, hS, _, _, hbl, c0, c1, c2, c3, c4, fz⟩ := HR0.u.buf.req ((G.upTo_get _ _ _).trans hr)
  rw [G.upTo_length] at e
  cases e
  have i0' : (0 : Int) ≤ (k : Int) := by omega
  have i1 : (k : Int) < (l.length : Int) := by omega
  have hid := J (HN.u k r hr).1
  have HR := J hr
  have HS' := J hS
  have f3 := fz (k * 5 + 3)
  clear hr c0 c1 hbl fz
  cases hf : (r.fate == 1)
  ·have HX := J (HR0.u.skip HR.u (show G.isLate x r = false by unfold G.isLate; rw [hf]; rfl))
   clear f3 c2 c4
   go_wp2_with fail
   go_roundw
   case rel => exact ⟨k + 1, by omega, by go_num, HX.u⟩
   case measure => simp [intOf]; omega
  cases hp : (decide (r.till ≤ x))
  ·have HX := J (HR0.u.skip HR.u (show G.isLate x r = false by unfold G.isLate; rw [hf, hp]; rfl))
   clear f3
   have hp': x < r.till := by have := of_decide_eq_false hp; omega
   go_wp2_with fail
   go_roundw
   case rel => exact ⟨k + 1, by omega, by go_num, HX.u⟩
   case measure => simp [intOf]; omega
  have HP := J (show G.isLate x r = true by unfold G.isLate; rw [hf, hp]; rfl)
  have HQ := J (HR0.u.put (fate := 4) (by decide) HR.u HP.u)
  have hp': r.till ≤ x := of_decide_eq_true hp
  go_upto_region 9 with fail
  clear hf hp
  generalize wr.setCell ⟨b, k * 5 + 3, none⟩ (.int .i64 4) = w2 at HQ ⊢
  clear hc c3 f3 c2 c4
  have hle := idsF_le (G.isLate x) l (k + 1)
  have hle0 := idsF_le (G.isLate x) l k
  have hm3 := J (show (G.idsF (G.isLate x) (l.take k)).length + 1 ≤ maxLen by simp only [maxLen]; omega)
  have hm4 := J (show ((G.idsF (G.isLate x) (l.take k)).length + 1) * 8 ≤ 140737488355328 by omega)
  clear hle hle0
  go_wp2_with (at_builtin; refine wpList_append_lies _ (by rfl) (.tmp 48) (.tmp 51) 68 (by rfl) 0 3 i0 (.int .i64 0) 1 8 Tryz.underlying68 hi hz0 hz1 hz2 rfl (by decide) (.slice A7 (G.idsF (G.isLate x) (l.take k)).length c7) _ _ rfl (HQ.u.u.alloc _).owns ⟨w2.heap.size, 0, none⟩ 1 1 [.int .i64 ((k : Int) + 1)] rfl rfl (buf_cells_in rfl) (by simp [Value.oneCell']) (by decide) hm3.u hm4.u (Nat.zero_le _) _ rfl ?_)
  intro b2 cap2 w3 hown hg ho hlt2
  rw [← hid.u] at hown
  have HX := J (HQ.u.app HR.u HP.u hown hg ho hlt2)
  clear hown hg ho hlt2
  go_wp2_with fail
  go_roundw
  case rel => exact ⟨k + 1, by omega, by go_num, HX.u⟩
  case measure => simp [intOf]; omega
 have hke : k = l.length := by omega
 subst hke
 have HE := J HR0.u.done
 go_wp2_with fail
 go_ret2; exact late_end x0 x1 HE.u
/- the reference's Lost -/
theorem halLost (S : Nat → Prop) (g : Nat) (v : Value) (l : List G.Req) (x : Int) (w : World) (h : BAt 82 S w g v l) (hn : G.Numbered l) :
  Calls Tryz.prog 40 #[.pointer (some ⟨g, 0, none⟩), .int .i64 x] w (LostPost 82 S w g v l x) := by
 obtain ⟨A, cap0, rfl, _, _, _⟩ := h.row.slice
 have hc := h.head.here (i := 0) rfl
 have hs := h.small
 have HH := J h; have HN := J hn
 clear h hn
 obtain ⟨i0, hi, hz0, hz1, hz2⟩ := info_parts bufInt_info
 go_enter Tryz.func40, Tryz.ntmps40
 go_wp2_with fail
 skip
 go_loopw [5, 6] (fun o i wr => ∃ k : Nat, k ≤ l.length ∧ i = .int .i64 k ∧ EndRun 82 S w wr g (.slice A l.length cap0) l (G.isLost x) 5 k o) (fun _ i _ => l.length - (intOf i).toNat)
 case atStart => exact ⟨0, by omega, rfl, EndRun.start HH.u⟩
 clear hc
 obtain ⟨k, hk, rfl, hr0⟩ := hrel
 obtain ⟨A7, c7, rfl, _, _, _⟩ := EndMid.u hr0 |>.slice
 have HR0 := J hr0
 have hc := HR0.u.buf.head.here (i := 0) rfl
 clear hr0
 by_cases hlt : k < l.length
 ·obtain ⟨r, hr⟩ := G.get_some l hlt
  obtain ⟨b, cap', e, hS, _, _, hbl, c0, c1, c2, c3, c4, fz⟩ := HR0.u.buf.req ((G.upTo_get _ _ _).trans hr)
  rw [G.upTo_length] at e
  cases e
  have i0' : (0 : Int) ≤ (k : Int) := by omega
  have i1 : (k : Int) < (l.length : Int) := by omega
  have hid := J (HN.u k r hr).1
  have HR := J hr
  have HS' := J hS
  have f3 := fz (k * 5 + 3)
  clear hr c0 c1 hbl fz
  cases hf : (r.fate == 2)
  ·have HX := J (HR0.u.skip HR.u (show G.isLost x r = false by unfold G.isLost; rw [hf]; rfl))
   clear f3 c2 c4
   go_wp2_with fail
   go_roundw
   case rel => exact ⟨k + 1, by omega, by go_num, HX.u⟩
   case measure => simp [intOf]; omega
  cases hp : (r.pod == x)
  ·have HX := J (HR0.u.skip HR.u (show G.isLost x r = false by unfold G.isLost; rw [hf, hp]; rfl))
   clear f3
   skip
   go_wp2_with fail
   go_roundw
   case rel => exact ⟨k + 1, by omega, by go_num, HX.u⟩
   case measure => simp [intOf]; omega
  have HP := J (show G.isLost x r = true by unfold G.isLost; rw [hf, hp]; rfl)
  have HQ := J (HR0.u.put (fate := 5) (by decide) HR.u HP.u)
  skip
  go_upto_region 7 with fail
  clear hf hp
  generalize wr.setCell ⟨b, k * 5 + 3, none⟩ (.int .i64 5) = w2 at HQ ⊢
  clear hc c3 f3 c2 c4
  have hle := idsF_le (G.isLost x) l (k + 1)
  have hle0 := idsF_le (G.isLost x) l k
  have hm3 := J (show (G.idsF (G.isLost x) (l.take k)).length + 1 ≤ maxLen by simp only [maxLen]; omega)
  have hm4 := J (show ((G.idsF (G.isLost x) (l.take k)).length + 1) * 8 ≤ 140737488355328 by omega)
  clear hle hle0
  go_wp2_with (at_builtin; refine wpList_append_lies _ (by rfl) (.tmp 44) (.tmp 47) 68 (by rfl) 0 3 i0 (.int .i64 0) 1 8 Tryz.underlying68 hi hz0 hz1 hz2 rfl (by decide) (.slice A7 (G.idsF (G.isLost x) (l.take k)).length c7) _ _ rfl (HQ.u.u.alloc _).owns ⟨w2.heap.size, 0, none⟩ 1 1 [.int .i64 ((k : Int) + 1)] rfl rfl (buf_cells_in rfl) (by simp [Value.oneCell']) (by decide) hm3.u hm4.u (Nat.zero_le _) _ rfl ?_)
  intro b2 cap2 w3 hown hg ho hlt2
  rw [← hid.u] at hown
  have HX := J (HQ.u.app HR.u HP.u hown hg ho hlt2)
  clear hown hg ho hlt2
  go_wp2_with fail
  go_roundw
  case rel => exact ⟨k + 1, by omega, by go_num, HX.u⟩
  case measure => simp [intOf]; omega
 have hke : k = l.length := by omega
 subst hke
 have HE := J HR0.u.done
 go_wp2_with fail
 go_ret; exact lost_end HE.u
theorem halLate (S : Nat → Prop) (g : Nat) (v : Value) (l : List G.Req) (x : Int) (w : World) (h : BAt 82 S w g v l) (hn : G.Numbered l) :
  Calls Tryz.prog 78 #[.pointer (some ⟨g, 0, none⟩), .int .i64 x] w (LatePost 82 S w g v l x) := by
 by_cases q : 0 ≤ x ∧ x ≤ 1099511627776
 ·exact halLate_in S g v l x w h hn q.1 q.2
 have HF := J (late_no h (Below.refl _ _) (show G.timeOk x = false by unfold G.timeOk; simp; omega))
 have Q := J (show x < 0 ∨ 1099511627776 < x by omega)
 clear h hn q
 go_enter Tryz.func78, Tryz.ntmps78
 go_wp2_with fail
 refine (refIn_no _ _ _ _ Q.u).mono ?_
 rintro e w1 ⟨rfl, rfl⟩
 go_wp2_with fail
 go_ret2
 exact HF.u
open Go.RowKit
theorem refCeil (a b : Int) (w : World) (h : 1 ≤ b) : Calls Tryz.prog 143 #[.int .i64 a, .int .i64 b] w fun e w' => e = .returned (.int .i64 (G.ceilc a b)) ∧ w = w' := by
 have a0 := G.clip_lo a; have a1 := G.clip_hi a; have b0 := G.clip_one h; have b1 := G.clip_hi b
 have c0 := G.ceil_lo a h; have c1 := G.ceil_hi a h
 obtain ⟨d0, d1⟩ := tdiv_bd (G.clip a) (G.clip b) (by omega) (by omega) (by omega)
 obtain ⟨t0, t1⟩ := G.ceil_tdiv a h
 go_enter Tryz.func143, Tryz.ntmps143
 go_wp2_with (first | (go_at_call 85; refine (refClip _ _).mono ?_; rintro e w' ⟨rfl, rfl⟩))
 go_loop [5] (fun t => ∃ n : Int, G.ceilc a b - 1 ≤ n ∧ n ≤ G.ceilc a b ∧ t = .int .i64 n) (fun t => (G.ceilc a b - intOf t).toNat)
 case atStart => exact ⟨_, t0, t1, rfl⟩
 obtain ⟨n, n0, n1, rfl⟩ := hrel
 obtain ⟨m0, m1, m2, m3⟩ := G.ceil_near a h n0 n1
 clear t0 t1 d0 d1
 by_cases hlt : n * G.clip b < G.clip a
 ·have hn := m2 hlt
  clear m2 m3
  go_wp2
  go_round
  case rel => exact ⟨n + 1, by omega, by omega, by go_num⟩
  case measure => simp [intOf]; omega
 have hn := J (m3 (by omega))
 clear m2 m3
 go_wp2
 go_ret
 exact ⟨ret_int hn.u, rfl⟩
theorem refMul (a b : Int) (w : World) : Calls Tryz.prog 144 #[.int .i64 a, .int .i64 b] w fun e w' => e = .returned (.int .i64 (G.mulc a b)) ∧ w = w' := by
 have a0 := G.clip_lo a; have a1 := G.clip_hi a; have b0 := G.clip_lo b; have b1 := G.clip_hi b
 have hm : Hid (G.mulc a b = G.clip (G.clip a * G.clip b)) := rfl
 rcases G.sign_cases (G.clip a) with ⟨sa, A, hA, hA0⟩ | ⟨sa, A, hA, hA0⟩ <;> rcases G.sign_cases (G.clip b) with ⟨sb, B, hB, hB0⟩ | ⟨sb, B, hB, hB0⟩
 all_goals
  have A1 : A ≤ 1000000000000000 := by omega
  have B1 : B ≤ 1000000000000000 := by omega
  have dA : decide (A < 0) = false := decide_eq_false (by omega)
  have dB : decide (B < 0) = false := decide_eq_false (by omega)
  have HA := J hA
  have HB := J hB
  have hst := J (G.mulAt_start A hB0 B1)
  go_enter Tryz.func144, Tryz.ntmps144
  go_wp2_with (first | (go_at_call 85; refine (refClip _ _).mono ?_; rintro e w' ⟨rfl, rfl⟩))
  go_loop [6, 7] (fun n p => ∃ x y : Int, Hid (G.mulAt A B y x) ∧ n = .int .i64 x ∧ p = .int .i64 y) (fun _ p => (intOf p).toNat)
  case atStart => exact ⟨_, _, hst, rfl, rfl⟩
  obtain ⟨x, y, hxy, rfl, rfl⟩ := hrel
  obtain ⟨x0, x1⟩ := G.mulAt_bd hxy.u
  clear hst
  rcases hxy.u with ⟨hy, hx⟩ | ⟨rfl, hx⟩
  ·obtain ⟨y0, y1⟩ := G.tens_bd hy
   have HX := J hx
   have HY := J hy
   have q0 : 0 ≤ B / y := Int.ediv_nonneg hB0 (by omega)
   have q1 : B / y ≤ B := Int.ediv_le_self _ hB0
   clear hxy hx hy hA hB
   go_wp2_with (first | (go_at_call 85; refine (refClip _ _).mono ?_; rintro e w' ⟨rfl, rfl⟩))
   have hin : Hid (G.clip (x * 10) = G.clip (A * (B / y / 10 * 10 + 0))) := by
    rw [Int.add_zero]; exact G.digit_step hA0 (by omega) HX.u
   go_loop [6, 8] (fun n k => ∃ z j : Int, 0 ≤ j ∧ j ≤ B / y % 10 ∧ -1000000000000000 ≤ z ∧ z ≤ 1000000000000000 ∧ Hid (z = G.clip (A * (B / y / 10 * 10 + j))) ∧ n = .int .i64 z ∧ k = .int .i64 j) (fun _ k => (B / y % 10 - intOf k).toNat)
   case atStart => exact ⟨_, 0, by omega, by omega, G.clip_lo _, G.clip_hi _, hin, rfl, rfl⟩
   obtain ⟨z, j, j0, j1, z0, z1, hz, rfl, rfl⟩ := hrel
   clear hin
   by_cases hj : j < B / y % 10
   ·have hnx : Hid (G.clip (z + A) = G.clip (A * (B / y / 10 * 10 + (j + 1)))) := by
     rw [← Int.add_assoc]; exact G.digit_add hA0 (by omega) hz.u
    go_wp2_with (first | (go_at_call 85; refine (refClip _ _).mono ?_; rintro e w' ⟨rfl, rfl⟩))
    go_round
    case rel => exact ⟨_, j + 1, by omega, by omega, G.clip_lo _, G.clip_hi _, hnx, rfl, by go_num⟩
    case measure => simp [intOf]; omega
   have hnx : Hid (G.mulAt A B (y / 10) z) := G.mulAt_next HY.u (by rw [hz.u]; congr 2; omega)
   go_wp2
   go_round
   case rel => exact ⟨_, _, hnx, rfl, rfl⟩
   case measure => simp [intOf]; omega
  go_wp2
  go_ret
  refine ⟨ret_int ?_, rfl⟩
  have ea := HA.u
  have eb := HB.u
  rw [hm.u]
  first
   | (rw [show G.clip a = -A by omega, show G.clip b = -B by omega, Int.neg_mul_neg])
   | (rw [show G.clip a = -A by omega, show G.clip b = B by omega, Int.neg_mul, G.clip_neg])
   | (rw [show G.clip a = A by omega, show G.clip b = -B by omega, Int.mul_neg, G.clip_neg])
   | (rw [show G.clip a = A by omega, show G.clip b = B by omega])
theorem refShare (a m : Int) (w : World) : Calls Tryz.prog 145 #[.int .i64 a, .int .i64 m] w fun e w' => e = .returned (.int .i64 (G.sharec a m)) ∧ w = w' := by
 obtain ⟨x, hx⟩ : ∃ x, (if G.clip a < 0 then 0 else G.clip a) = x := ⟨_, rfl⟩
 obtain ⟨y, hy⟩ : ∃ y, (if G.clip m < 0 then 0 else G.clip m) = y := ⟨_, rfl⟩
 have ex : G.pos a = x := by rw [← G.pos_eq]; omega
 have ey : G.pos m = y := by rw [← G.pos_eq]; omega
 have x0 : 0 ≤ x := by omega
 have y0 : 0 ≤ y := by omega
 have a1 := G.clip_hi a; have m1 := G.clip_hi m
 have x1 : x ≤ 1000000000000000 := by omega
 have y1 : y ≤ 1000000000000000 := by omega
 have h0 : 0 ≤ x % 1000 * (y % 1000) := Int.mul_nonneg (by omega) (by omega)
 have h1 : x % 1000 * (y % 1000) ≤ 1000 * 1000 := Int.mul_le_mul (by omega) (by omega) (by omega) (by omega)
 have k0 := G.clip_lo (G.clip (x / 1000) * G.clip y); have k1 := G.clip_hi (G.clip (x / 1000) * G.clip y)
 have l0 := G.clip_lo (G.clip (x % 1000) * G.clip (y / 1000)); have l1 := G.clip_hi (G.clip (x % 1000) * G.clip (y / 1000))
 change -1000000000000000 ≤ G.mulc (x / 1000) y at k0
 change G.mulc (x / 1000) y ≤ 1000000000000000 at k1
 change -1000000000000000 ≤ G.mulc (x % 1000) (y / 1000) at l0
 change G.mulc (x % 1000) (y / 1000) ≤ 1000000000000000 at l1
 have c0 := G.clip_lo (G.mulc (x / 1000) y + G.mulc (x % 1000) (y / 1000)); have c1 := G.clip_hi (G.mulc (x / 1000) y + G.mulc (x % 1000) (y / 1000))
 have hs : Hid (G.sharec a m = G.clip (G.clip (G.mulc (x / 1000) y + G.mulc (x % 1000) (y / 1000)) + x % 1000 * (y % 1000) / 1000)) := by
  unfold G.sharec Hid
  rw [ex, ey, G.share_eq _ _ x0 y0 x1 y1]
 clear ex ey
 go_enter Tryz.func145, Tryz.ntmps145
 go_wp2_with (first | (go_at_call 85; refine (refClip _ _).mono ?_; rintro e w' ⟨rfl, rfl⟩) | (go_at_call 144; refine (refMul _ _ _).mono ?_; rintro e w' ⟨rfl, rfl⟩))
 go_ret
 exact ⟨ret_int hs.u.symm, rfl⟩
open Go.RowKit
theorem years_bd {y : Int} (h0 : -20000 ≤ y) (h1 : y ≤ 20000) : -8000000 ≤ G.years y ∧ G.years y ≤ 8000000 := by unfold G.years; omega
theorem above {y n : Int} (h : n < G.years y - G.years 1970) : G.yrOf n < y := by
 have := G.yrOf_hi (n := n) (y := y - 1) (by rw [show y - 1 + 1 = y by omega]; exact h)
 omega
theorem month_end {n m : Int} (h1 : 1 ≤ m) (h2 : m ≤ 12) (h : G.long (G.yrOf n) m ≤ n - (G.years (G.yrOf n) - G.years 1970) - G.cum (G.yrOf n) m) : m < 12 := by
 rcases Int.lt_or_le m 12 with hlt | hge
 ·exact hlt
 obtain rfl : m = 12 := by omega
 have k := G.cum_year (G.yrOf n)
 have hv := G.date_valid n; have hd := G.date_dayno n
 obtain ⟨a1, a2, a3, a4⟩ := hv
 have c1 := G.cum_bd (G.yrOf n) (G.moOf n) a1 a2
 unfold G.dayno at hd
 omega
theorem month_is {n m : Int} (h1 : 1 ≤ m) (h2 : m ≤ 12) (h0 : 0 ≤ n - (G.years (G.yrOf n) - G.years 1970) - G.cum (G.yrOf n) m)
  (h : n - (G.years (G.yrOf n) - G.years 1970) - G.cum (G.yrOf n) m < G.long (G.yrOf n) m) :
  m = G.moOf n ∧ n - (G.years (G.yrOf n) - G.years 1970) - G.cum (G.yrOf n) m + 1 = G.dyOf n := by
 have k := G.date_uniq (n := n) (y := G.yrOf n) (m := m) (d := n - (G.years (G.yrOf n) - G.years 1970) - G.cum (G.yrOf n) m + 1) ⟨h1, h2, by omega, by omega⟩ (by unfold G.dayno; omega)
 exact ⟨k.2.1, k.2.2⟩
theorem year_start (n : Int) : 0 ≤ n - (G.years (G.yrOf n) - G.years 1970) ∧ n - (G.years (G.yrOf n) - G.years 1970) ≤ 366 := by
 have hv := G.date_valid n; have hd := G.date_dayno n
 obtain ⟨a1, a2, a3, a4⟩ := hv
 have c1 := G.cum_bd (G.yrOf n) (G.moOf n) a1 a2
 have u2 : (if G.leap (G.yrOf n) then (1 : Int) else 0) ≤ 1 := by split <;> omega
 unfold G.dayno at hd
 omega
theorem refDate (n : Int) (w : World) (n0 : -4000000 ≤ n) (n1 : n ≤ 4000000) : Calls Tryz.prog 154 #[.int .i64 n] w fun e w' => e = .returned (.tuple #[.int .i64 (G.yrOf n), .int .i64 (G.moOf n), .int .i64 (G.dyOf n)]) ∧ Below w.heap.size w w' := by
 have e1 : G.years 1970 = 719528 := G.years_1970
 have r0 := G.yrOf_lo (n := n) (y := -13000) (by rw [e1]; unfold G.years; omega)
 have r1 := G.yrOf_hi (n := n) (y := 13000) (by rw [e1]; unfold G.years; omega)
 have q0 : -11000 ≤ n.tdiv 366 ∧ n.tdiv 366 ≤ 11000 := by
  rw [tdiv_eq_if]; split <;> omega
 obtain ⟨q0, q1⟩ := q0
 obtain ⟨b2, b3⟩ := years_bd (y := 1970) (by omega) (by omega)
 obtain ⟨s0, s1⟩ := year_start n
 have hlo : Hid (∀ y, G.years y - G.years 1970 ≤ n → y ≤ G.yrOf n) := fun y h => G.yrOf_lo h
 have hup : Hid (∀ y, n < G.years y - G.years 1970 → G.yrOf n < y) := fun y h => above h
 have hc1 : Hid (G.cum (G.yrOf n) 1 = 0) := G.cum_one _
 clear e1
 go_enter Tryz.func154, Tryz.ntmps154
 go_wp2_with fail
 go_loopw [2] (fun a wr => ∃ y : Int, -14000 ≤ y ∧ y ≤ 14000 ∧ a = .int .i64 y ∧ Below w.heap.size w wr) (fun a _ => (intOf a + 20000).toNat)
 case atStart => exact ⟨_, by omega, by omega, rfl, Below.refl _ _⟩
 obtain ⟨y, y0, y1, rfl, hbw⟩ := hrel
 obtain ⟨b0, b1⟩ := years_bd (y := y) (by omega) (by omega)
 go_wp2_with fail
 refine (refYears _ _ (by omega) (by omega)).mono ?_
 rintro e w1 ⟨rfl, hb1⟩
 go_wp2_with fail
 refine (refYears _ _ (by omega) (by omega)).mono ?_
 rintro e w2 ⟨rfl, hb2⟩
 have hb : Below w.heap.size w w2 := (hbw.trans (hb1.mono hbw.size)).trans (hb2.mono (Nat.le_trans hbw.size hb1.size))
 clear hb1 hb2 hbw
 by_cases hlt : n < G.years y - G.years 1970
 ·have hu := hup.u y hlt
  go_wp2_with fail
  go_roundw
  case rel => exact ⟨y - 1, by omega, by omega, by go_num, hb⟩
  case measure => simp [intOf]; omega
 have hl := hlo.u y (by omega)
 go_wp2_with fail
 clear hlt b0 b1
 go_loopw [2] (fun a wr => ∃ y : Int, -15000 ≤ y ∧ y ≤ G.yrOf n ∧ a = .int .i64 y ∧ Below w.heap.size w wr) (fun a _ => (G.yrOf n - intOf a).toNat)
 case atStart => exact ⟨_, by omega, hl, rfl, hb⟩
 clear hl y1 y0
 obtain ⟨z, z0, z1, rfl, hbw⟩ := hrel
 obtain ⟨b0, b1⟩ := years_bd (y := z + 1) (by omega) (by omega)
 go_wp2_with fail
 refine (refYears _ _ (by omega) (by omega)).mono ?_
 rintro e w3 ⟨rfl, hb3⟩
 go_wp2_with fail
 refine (refYears _ _ (by omega) (by omega)).mono ?_
 rintro e w4 ⟨rfl, hb4⟩
 have hb' : Below w.heap.size w w4 := (hbw.trans (hb3.mono hbw.size)).trans (hb4.mono (Nat.le_trans hbw.size hb3.size))
 clear hb3 hb4 hbw
 by_cases hlt : G.years (z + 1) - G.years 1970 ≤ n
 ·have hu := hlo.u (z + 1) hlt
  go_wp2_with fail
  go_roundw
  case rel => exact ⟨z + 1, by omega, by omega, by go_num, hb'⟩
  case measure => simp [intOf]; omega
 have hu := hup.u (z + 1) (by omega)
 obtain rfl : z = G.yrOf n := by omega
 go_wp2_with fail
 clear hlt b0 b1 z0 z1 hu
 refine (refYears _ _ (by omega) (by omega)).mono ?_
 rintro e w5 ⟨rfl, hb5⟩
 go_wp2_with fail
 refine (refYears _ _ (by omega) (by omega)).mono ?_
 rintro e w6 ⟨rfl, hb6⟩
 have hb2 : Below w.heap.size w w6 := (hb'.trans (hb5.mono hb'.size)).trans (hb6.mono (Nat.le_trans hb'.size hb5.size))
 clear hb5 hb6 hb' hb
 obtain ⟨b0, b1⟩ := years_bd (y := G.yrOf n) (by omega) (by omega)
 go_wp2_with fail
 go_loop [0, 3] (fun a i => ∃ m : Int, 1 ≤ m ∧ m ≤ 12 ∧ 0 ≤ n - (G.years (G.yrOf n) - G.years 1970) - G.cum (G.yrOf n) m ∧ i = .int .i64 m ∧ a = .int .i64 (n - (G.years (G.yrOf n) - G.years 1970) - G.cum (G.yrOf n) m)) (fun _ i => (12 - intOf i).toNat)
 case atStart => exact ⟨1, by omega, by omega, by rw [hc1.u]; omega, rfl, by rw [hc1.u]; go_num⟩
 obtain ⟨m, m0, m1, g0, rfl, rfl⟩ := hrel
 obtain ⟨u0, u1⟩ := G.cum_bd (G.yrOf n) m m0 m1
 clear u1
 have u4 := G.long_hi (G.yrOf n) m
 have u5 := G.long_lo (G.yrOf n) m
 go_wp2_with fail
 refine (refLong _ _ _ m0 m1).mono ?_
 rintro e w7 ⟨rfl, rfl⟩
 by_cases hlt : G.long (G.yrOf n) m ≤ n - (G.years (G.yrOf n) - G.years 1970) - G.cum (G.yrOf n) m
 ·have hm := month_end m0 m1 hlt
  have hs := J (G.cum_succ (G.yrOf n) m m0 hm)
  go_wp2_with fail
  refine (refLong _ _ _ m0 m1).mono ?_
  rintro e w7 ⟨rfl, rfl⟩
  go_wp2_with fail
  go_round
  case rel => exact ⟨m + 1, by omega, by omega, by rw [hs.u]; omega, by go_num, by rw [hs.u]; go_num⟩
  case measure => simp [intOf]; omega
 obtain ⟨k1, k2⟩ := month_is m0 m1 g0 (by omega)
 have K1 := J k1
 have K2 := J k2
 clear k1 k2
 go_wp2_with fail
 go_ret3
 exact ⟨ret_int3 rfl K1.u K2.u, hb2⟩
open Go.RowKit
def rest (n m : Int) : Int := n % m
theorem rest_eq {n m : Int} (hm : 0 < m) : (if n.tmod m < 0 then n.tmod m + m else n.tmod m) = n % m := by
 have h := tdiv_floor n m hm
 have h3 := Int.mul_ediv_add_emod n m
 have h4 := Int.mul_tdiv_add_tmod n m
 split at h
 ·rename_i c
  rw [if_pos c]
  have : m * (n.tdiv m - 1) = m * n.tdiv m - m := by rw [Int.mul_sub]; omega
  rw [h] at this; omega
 rename_i c
 rw [if_neg c]
 rw [← h] at h3; omega
theorem tmod_bd (a : Int) {b : Int} (h : 0 < b) : -b < a.tmod b ∧ a.tmod b < b := by
 have h4 := Int.tmod_lt_of_pos a h
 have := Int.tmod_lt_of_pos (-a) h
 rw [Int.neg_tmod] at this; omega
theorem refRest (n m : Int) (w : World) (hm : 1 ≤ m) (hm' : m ≤ 1000000000000) : Calls Tryz.prog 153 #[.int .i64 n, .int .i64 m] w fun e w' => e = .returned (.int .i64 (rest n m)) ∧ w = w' := by
 obtain ⟨b0, b1⟩ := tmod_bd n (show 0 < m by omega)
 have he := J (rest_eq (n := n) (show 0 < m by omega))
 by_cases hn : n.tmod m < 0
 ·go_enter Tryz.func153, Tryz.ntmps153
  go_wp2
  go_ret
  exact ⟨ret_int (by have := he.u; rw [if_pos hn] at this; exact this), rfl⟩
 go_enter Tryz.func153, Tryz.ntmps153
 go_wp2
 go_ret
 exact ⟨ret_int (by have := he.u; rw [if_neg (by omega)] at this; exact this), rfl⟩
open Go.RowKit
theorem two_at {w w1 : World} {T U : TypeId} {a b : Array Value} (hb : Below ((w.alloc (.cells a T)).alloc (.cells b U)).heap.size ((w.alloc (.cells a T)).alloc (.cells b U)) w1) :
  G.At w1 w.heap.size T a ∧ G.At w1 (w.heap.size + 1) U b ∧ w.heap.size + 1 < w1.heap.size := by
 have h1 : G.At w1 (w.heap.size + 1) U b := by
  have := G.At.made (w.alloc (.cells a T)) U b
  rw [World.size_alloc] at this
  exact this.below hb (by simp)
 exact ⟨((G.At.made w T _).alloc _).below hb (by simp; omega), h1, by have := hb.size; simp at this; omega⟩
theorem At7 {w : World} {g : Nat} {T : TypeId} {a b c d e f h : Value} (hA : G.At w g T #[a, b, c, d, e, f, h]) :
  w.cell? ⟨g, 0, none⟩ = some a ∧ w.cell? ⟨g, 1, none⟩ = some b ∧ w.cell? ⟨g, 2, none⟩ = some c ∧ w.cell? ⟨g, 3, none⟩ = some d ∧ w.cell? ⟨g, 4, none⟩ = some e ∧ w.cell? ⟨g, 5, none⟩ = some f ∧ w.cell? ⟨g, 6, none⟩ = some h ∧
  w.frozen? ⟨g, 0, none⟩ = false ∧ w.frozen? ⟨g, 1, none⟩ = false ∧ w.frozen? ⟨g, 2, none⟩ = false ∧ w.frozen? ⟨g, 3, none⟩ = false ∧ w.frozen? ⟨g, 4, none⟩ = false ∧ w.frozen? ⟨g, 5, none⟩ = false ∧ w.frozen? ⟨g, 6, none⟩ = false :=
 ⟨hA.here rfl, hA.here rfl, hA.here rfl, hA.here rfl, hA.here rfl, hA.here rfl, hA.here rfl, hA.soft _, hA.soft _, hA.soft _, hA.soft _, hA.soft _, hA.soft _, hA.soft _⟩
theorem At7_put6 {w w' : World} {g : Nat} {T : TypeId} {a b c d e f h a' b' c' d' e' f' : Value} (hA : G.At w g T #[a, b, c, d, e, f, h])
  (hw : (((((w.setCell ⟨g, 0, none⟩ a').setCell ⟨g, 1, none⟩ b').setCell ⟨g, 2, none⟩ c').setCell ⟨g, 3, none⟩ d').setCell ⟨g, 4, none⟩ e').setCell ⟨g, 5, none⟩ f' = w') :
  G.At w' g T #[a', b', c', d', e', f', h] ∧ w'.heap.size = w.heap.size ∧ ∀ B, B ≤ g → Below B w w' := by
 subst hw
 refine ⟨(((((hA.put 0 a').put 1 b').put 2 c').put 3 d').put 4 e').put 5 f', by simp, fun B hB => ?_⟩
 exact ((((((Below.refl B w).setCell hB _).setCell hB _).setCell hB _).setCell hB _).setCell hB _).setCell hB _
theorem At_put6_other {w w' : World} {g g' : Nat} {T : TypeId} {cs : Array Value} {a' b' c' d' e' f' : Value} (hA : G.At w g' T cs) (hne : g' ≠ g)
  (hw : (((((w.setCell ⟨g, 0, none⟩ a').setCell ⟨g, 1, none⟩ b').setCell ⟨g, 2, none⟩ c').setCell ⟨g, 3, none⟩ d').setCell ⟨g, 4, none⟩ e').setCell ⟨g, 5, none⟩ f' = w') : G.At w' g' T cs := by
 subst hw
 exact (((((hA.other hne _).other hne _).other hne _).other hne _).other hne _).other hne _
theorem below_two {w w1 : World} {o o' : Obj} (hb : Below ((w.alloc o).alloc o').heap.size ((w.alloc o).alloc o') w1) : Below w.heap.size w w1 :=
 (((Below.refl _ _).alloc (Nat.le_refl _) _).alloc (by simp) _).trans (hb.mono (by simp; omega))
theorem refOf_no (s h : Int) (w : World) (hb : ¬ okTime s h) : Calls Tryz.prog 140 #[.int .i64 s, .int .i64 h] w fun e w' =>
  e = .returned (.tuple #[civZero, .int .i64 1]) ∧ Below w.heap.size w w' := by
 by_cases c1 : -100000000000 ≤ s ∧ s ≤ 100000000000
 ·have c2 : h < -900 ∨ 900 < h := by unfold okTime at hb; omega
  clear hb
  go_enter Tryz.func140, Tryz.ntmps140
  go_wp2_with fail
  refine (refIn_yes _ _ _ _ c1.1 c1.2).mono ?_
  rintro e w' ⟨rfl, rfl⟩
  go_wp2_with fail
  refine (refIn_no _ _ _ _ c2).mono ?_
  rintro e w' ⟨rfl, rfl⟩
  go_wp2_with fail
  refine bodyPost_ret (v := .tuple #[.agg #[.int .i64 0, .int .i64 0, .int .i64 0, .int .i64 0, .int .i64 0, .int .i64 0, .int .i64 0], .int .i64 1]) (by simp [results, Tryz.results140, go_sem]) rfl ⟨rfl, ?_⟩
  go_grown
 clear hb
 go_enter Tryz.func140, Tryz.ntmps140
 go_wp2_with fail
 refine (refIn_no _ _ _ _ (by omega)).mono ?_
 rintro e w' ⟨rfl, rfl⟩
 go_wp2_with fail
 refine bodyPost_ret (v := .tuple #[.agg #[.int .i64 0, .int .i64 0, .int .i64 0, .int .i64 0, .int .i64 0, .int .i64 0, .int .i64 0], .int .i64 1]) (by simp [results, Tryz.results140, go_sem]) rfl ⟨rfl, ?_⟩
 go_grown
theorem refOf_yes (s h : Int) (w : World) (hb : okTime s h) : Calls Tryz.prog 140 #[.int .i64 s, .int .i64 h] w fun e w' =>
  e = .returned (.tuple #[civAgg s h, .int .i64 0]) ∧ Below w.heap.size w w' := by
 obtain ⟨b0, b1, b2, b3⟩ := hb
 obtain ⟨t, ht⟩ : ∃ t, t = s + h * 60 := ⟨_, rfl⟩
 have er : Hid (rest (s + h * 60) 86400 = t % 86400) := by show _ = _; rw [ht]; rfl
 have ew : Hid (rest (t / 86400 + 4) 7 = (t / 86400 + 4) % 7) := rfl
 have t0 : -100000054000 ≤ t := by omega
 have t1 : t ≤ 100000054000 := by omega
 have et := ht.symm
 have hag : Hid (civAgg s h = .agg #[.int .i64 (G.yrOf (t / 86400)), .int .i64 (G.moOf (t / 86400)), .int .i64 (G.dyOf (t / 86400)), .int .i64 (t % 86400 / 3600), .int .i64 (t % 86400 / 60 % 60), .int .i64 (t % 86400 % 60), .int .i64 ((t / 86400 + 4) % 7)]) := by
  show _ = _; unfold civAgg; rw [show s + 60 * h = t by omega]
 have eq2 : (t - t % 86400).tdiv 86400 = t / 86400 := by
  rw [tdiv_eq_if]; split <;> omega
 have eq3 : t % 86400 % 3600 / 60 = t % 86400 / 60 % 60 := by omega
 clear ht
 go_enter Tryz.func140, Tryz.ntmps140
 go_wp2_with fail
 refine (refIn_yes _ _ _ _ b0 b1).mono ?_
 rintro e w' ⟨rfl, rfl⟩
 go_wp2_with fail
 refine (refIn_yes _ _ _ _ b2 b3).mono ?_
 rintro e w' ⟨rfl, rfl⟩
 go_wp2_with fail
 refine (refRest _ _ _ (by omega) (by omega)).mono ?_
 rw [← et, er.u]
 rintro e w' ⟨rfl, rfl⟩
 go_wp2_with fail
 refine (refDate _ _ (by omega) (by omega)).mono ?_
 rintro e w1 ⟨rfl, hb1⟩
 obtain ⟨hA, hC, hz⟩ := two_at hb1
 have hbw := below_two hb1
 clear hb1
 have HA := J hA; have HC := J hC
 obtain ⟨k0, k1, k2, k3, k4, k5, k6, l0, l1, l2, l3, l4, l5, l6⟩ := At7 hC
 clear hA hC
 go_wp2_with fail
 refine (refRest _ _ _ (by omega) (by omega)).mono ?_
 rw [ew.u]
 rintro e w2 ⟨rfl, hw⟩
 obtain ⟨hC, hs, hb2⟩ := At7_put6 HC.u hw
 have hA := At_put6_other HA.u (by omega) hw
 have hbw2 := hbw.trans (hb2 w.heap.size (by omega))
 clear hw hb2 k0 k1 k2 k3 k4 k5 k6 l0 l1 l2 l3 l4 l5 l6
 obtain ⟨k0, k1, k2, k3, k4, k5, k6, l0, l1, l2, l3, l4, l5, l6⟩ := At7 hC
 obtain ⟨i0, i1, i2, i3, i4, i5, i6, j0, j1, j2, j3, j4, j5, j6⟩ := At7 hA
 clear hA hC hs HA HC hbw
 go_wp2_with fail
 refine bodyPost_ret (v := .tuple #[.agg #[.int .i64 (G.yrOf (t / 86400)), .int .i64 (G.moOf (t / 86400)), .int .i64 (G.dyOf (t / 86400)), .int .i64 (t % 86400 / 3600), .int .i64 (t % 3600 / 60), .int .i64 (t % 60), .int .i64 ((t / 86400 + 4) % 7)], .int .i64 0]) (by simp [results, Tryz.results140, go_sem, i0, i1, i2, i3, i4, i5, i6]) rfl ⟨?_, ?_⟩
 ·rw [hag.u, show t % 86400 / 60 % 60 = t % 3600 / 60 by omega, show t % 86400 % 60 = t % 60 by omega]
 exact (((((((hbw2.setCell (by simp) _).setCell (by simp) _).setCell (by simp) _).setCell (by simp) _).setCell (by simp) _).setCell (by simp) _).setCell (by simp) _).setCell (by simp) _
end Go.Proofs.YtidonhndeohdlaaGreat
