/- A loop of the call's own, call by call; the plain plan, a depth; the small check 'looks'. Plain laws of LoopFails and LoopCools. -/
import Derived.Test.YtlfaogkdghnmcaaGreatZLopC
import Derived.Test.YtlfaogkdghnmcaaGreatLopG
import Derived.Test.YtlfaogkdghnmcaaGreatZStb

set_option linter.unusedVariables false
set_option linter.unusedSimpArgs false
namespace Go.Proofs.YtlfaogkdghnmcaaGreat
open Go.RowKit
set_option linter.unusedVariables false
/-- a loop in blocks of the call's own, below top -/
def LopRun (w0 : World) (top : Nat) (w : World) (g : Nat) (l : Lp) : Prop :=
  ∃ (gs : Nat) (vt vf vw vm : Value) (S1 S2 : Nat → Prop), LopAt 142 184 225 S1 S2 w g gs vt vf vw vm l ∧ (∀ b, S1 b ∨ S2 b → w0.heap.size ≤ b ∧ b < top) ∧ Below w0.heap.size w0 w
theorem LopRun.below {w0 w w' : World} {top g : Nat} {l : Lp} (h : LopRun w0 top w g l) (hb : Below w.heap.size w w') : LopRun w0 top w' g l := by
  obtain ⟨gs, vt, vf, vw, vm, S1, S2, h1, h2, h3⟩ := h
  exact ⟨gs, vt, vf, vw, vm, S1, S2, h1.below hb, h2, h3.trans (hb.mono h3.size)⟩
theorem LopRun.alloc {w0 w : World} {top g : Nat} {l : Lp} (h : LopRun w0 top w g l) (o : Obj) : LopRun w0 top (w.alloc o) g l := h.below ((Below.refl _ _).alloc (Nat.le_refl _) o)
theorem LopRun.drew {w0 w : World} {top g : Nat} {l : Lp} (h : LopRun w0 top w g l) : LopRun w0 top w.drew g l := h.below (Below.refl _ _).drew
theorem LopRun.out {w0 w : World} {top g : Nat} {l : Lp} (h : LopRun w0 top w g l) : Below w0.heap.size w0 w := by obtain ⟨_, _, _, _, _, _, _, _, _, h⟩ := h; exact h
theorem LopRun.top {w0 w : World} {top g : Nat} {l : Lp} (h : LopRun w0 top w g l) : LopRun w0 w.heap.size w g l := by
  obtain ⟨gs, vt, vf, vw, vm, S1, S2, h1, h2, h3⟩ := h
  exact ⟨gs, vt, vf, vw, vm, S1, S2, h1, fun b hb => ⟨(h2 b hb).1, hb.elim (h1.lim b) (h1.st.lim b)⟩, h3⟩
theorem runNew {w0 w w' : World} {p : Pln} {e : Ending} (hb : Below w0.heap.size w0 w) (h : NewLopPost 142 184 225 w p e w') : ∃ g, e = .returned (.tuple #[.pointer (some ⟨g, 0, none⟩), .int .i64 0]) ∧ LopRun w0 w'.heap.size w' g (newLp p) := by
  obtain ⟨g, gs, vt, vf, S1, S2, rfl, hl, h1, h2, hb2⟩ := h
  have z := hb.size
  exact ⟨g, rfl, gs, vt, vf, _, _, S1, S2, hl, fun b hb3 => ⟨by rcases hb3 with hb3 | hb3; have := h1 b hb3; omega; have := h2 b hb3; omega, hb3.elim (hl.lim b) (hl.st.lim b)⟩, hb.trans (hb2.mono hb.size)⟩
theorem runLook (w0 : World) (top : Nat) (R : Nat → Prop) (g : Nat) (v : Value) (l : Lp) (now sec have0 : Int) (rs : List RdV) (busy : Bool) (j : Nat) (w : World) (h : LopRun w0 top w g l) (hr : RdsIn R w v rs) (hR : ∀ b, R b → b < w0.heap.size ∨ top ≤ b) (hl : l.ok j) (hj : j ≤ 90000) (hrl : rs.length ≤ 9223372036854775807) :
    Calls Tryz.prog 140 #[.pointer (some ⟨g, 0, none⟩), .int .i64 now, .int .i64 sec, .int .i64 have0, v, .bool busy] w fun e w' => e = .returned (.tuple #[.int .i64 (lookN l now sec have0 (rs.map RdV.rd) busy), .int .i64 (lookE l now sec have0 (rs.map RdV.rd).length)]) ∧ LopRun w0 w'.heap.size w' g (lookL l now sec have0 (rs.map RdV.rd) busy) ∧ Tide.Chg (fun b => w0.heap.size ≤ b ∧ b < top) w w' := by
  obtain ⟨gs, vt, vf, vw, vm, S1, S2, h1, h2, h3⟩ := h
  refine (lopLook S1 S2 R g gs vt vf vw vm v l now sec have0 rs busy j w h1 hr (fun b hb => ⟨fun hs => by have := h2 b (.inl hs); have := hR b hb; omega, fun hs => by have := h2 b (.inr hs); have := hR b hb; omega⟩) hl hj hrl).mono ?_
  rintro e w' ⟨he, ⟨vw', vm', h4⟩, hc⟩
  refine ⟨he, ⟨gs, vt, vf, vw', vm', S1, _, h4, fun b hb => ⟨?_, hb.elim (h4.lim b) (h4.st.lim b)⟩, ?_⟩, hc.mono fun b _ hb => h2 b hb⟩
  · rcases hb with hb | hb | hb
    · exact (h2 b (.inl hb)).1
    · exact (h2 b (.inr hb)).1
    · have := h3.size; omega
  · exact h3.trans (hc.below h3.size (fun b hb hs => by have := h2 b hs; omega))
theorem runDue (w0 : World) (top g : Nat) (l : Lp) (now : Int) (j : Nat) (w : World) (h : LopRun w0 top w g l) (hl : l.ok j) (n0 : -9223372036854775808 ≤ now) (n1 : now ≤ 9223372036854775807) :
    Calls Tryz.prog 95 #[.pointer (some ⟨g, 0, none⟩), .int .i64 now] w fun e w' => e = .returned (.bool (dueB l now)) ∧ Below w.heap.size w w' := by
  obtain ⟨gs, vt, vf, vw, vm, S1, S2, h1, h2, h3⟩ := h
  exact lopDue _ g gs vt vf l now w h1.head n0 n1 hl.last0 hl.last1
/-- the slice of one reading, of one number -/
theorem rds_one {R : Nat → Prop} {w : World} {b1 b2 c1 : Nat} {f : Bool} {n : Int} (h1 : Tide.At w b1 3 #[.int .i64 n]) (h2 : Tide.At w b2 170 #[.bool f, .slice (some ⟨b1, 0, none⟩) 1 c1]) (r1 : R b1) (r2 : R b2) :
    RdsIn R w (.slice (some ⟨b2, 0, none⟩) 1 1) [⟨f, some ⟨b1, 0, none⟩, c1, [n]⟩] := by
  refine ⟨⟨some ⟨b2, 0, none⟩, 1, rfl, fun _ => ⟨b2, 0, rfl, r2, h2.inside, fun i r j u hi hj => ?_⟩⟩, fun r hr => ?_, fun r hr => ?_⟩
  · rcases i with _ | i
    · simp at hi; subst hi
      rcases j with _ | _ | j
      · simp [RdV.enc] at hj; subst hj; exact h2.here rfl
      · simp [RdV.enc] at hj; subst hj; exact h2.here rfl
      · simp [RdV.enc] at hj
    · simp at hi
  · simp at hr; subst hr
    exact fun _ => ⟨b1, 0, rfl, r1, h1.inside, fun i x hi => by
      rcases i with _ | i
      · simp at hi; subst hi; exact h1.here rfl
      · simp at hi⟩
  · simp at hr; subst hr; show 1 ≤ _; omega
theorem rds_fail {R : Nat → Prop} {w : World} {b2 : Nat} {f : Bool} (h2 : Tide.At w b2 170 #[.bool f, .slice none 0 0]) (r2 : R b2) :
    RdsIn R w (.slice (some ⟨b2, 0, none⟩) 1 1) [⟨f, none, 0, []⟩] := by
  refine ⟨⟨some ⟨b2, 0, none⟩, 1, rfl, fun _ => ⟨b2, 0, rfl, r2, h2.inside, fun i r j u hi hj => ?_⟩⟩, fun r hr => ?_, fun r hr => ?_⟩
  · rcases i with _ | i
    · simp at hi; subst hi
      rcases j with _ | _ | j
      · simp [RdV.enc] at hj; subst hj; exact h2.here rfl
      · simp [RdV.enc] at hj; subst hj; exact h2.here rfl
      · simp [RdV.enc] at hj
    · simp at hi
  · simp at hr; subst hr; exact fun h0 => by simp at h0
  · simp at hr; subst hr; show 0 ≤ _; omega
def PlainPost (w : World) (e : Ending) (w' : World) : Prop := ∃ b, e = .returned (plnV plainP (.slice (some ⟨b, 0, none⟩) 1 1)) ∧ Tide.ListIn w' 17 Trg.enc (.slice (some ⟨b, 0, none⟩) 1 1) [plainT] ∧ Below w.heap.size w w'
theorem plain_list {w : World} {b : Nat} (h : Tide.At w b 37 TC10) : Tide.ListIn w 17 Trg.enc (.slice (some ⟨b, 0, none⟩) 1 1) [plainT] := by
  refine ⟨some ⟨b, 0, none⟩, 1, rfl, fun _ => ⟨b, 0, rfl, h.inside, fun i a j u hi hj => ?_⟩⟩
  rcases i with _ | i
  · simp at hi; subst hi
    rw [Nat.zero_mul, Nat.add_zero, Nat.zero_add]
    refine h.here ?_
    rw [← Array.getElem?_toList]
    exact hj
  · simp at hi
set_option maxRecDepth 100000 in
set_option maxHeartbeats 1600000 in
theorem plainPlanC (w : World) : Calls Tryz.prog 112 #[] w (PlainPost w) := by
  obtain ⟨i0, hi0, hz0, hz1⟩ := info2 plain_trg
  have hz2 : ¬ 1 * i0.size > 2 ^ 24 := by rw [hz1]; decide
  have hz3 : ¬ 1 * i0.size = 0 := by rw [hz1]; decide
  have hz4 : Instr.fill (fun i => some (i * i0.size, i0.size)) ((Array.range (1 * i0.size)).map ((Value.agg #[.int .i64 0, .int .i64 0, .int .i64 0, .int .u64 0, .int .u64 0, .int .u64 0, .int .u64 0, .int .u64 0, .bool false, .bool false, .int .u64 0, .int .u64 0, .int .u64 0, .int .u64 0, .int .u64 0, .bool false, .bool false]).cells[· % (Value.agg #[.int .i64 0, .int .i64 0, .int .i64 0, .int .u64 0, .int .u64 0, .int .u64 0, .int .u64 0, .int .u64 0, .bool false, .bool false, .int .u64 0, .int .u64 0, .int .u64 0, .int .u64 0, .int .u64 0, .bool false, .bool false]).cells.size]!)) [(0, .agg TC10)] = some TC10 := by rw [hz1]; exact plain_fill
  have H0 := Lib.hid hi0; have H1 := Lib.hid hz0; have H2 := Lib.hid hz2; have H3 := Lib.hid hz3; have H4 := Lib.hid hz4
  clear hi0 hz0 hz1 hz2 hz3 hz4
  have HZ := Lib.hid (Tide.At.made w 29 #[.string ⟨#[]⟩, .int .i64 0, .int .i64 0, .int .i64 0, .int .i64 0, .int .i64 0, .int .i64 0, .int .i64 0, .int .i64 0, .int .i64 0, .int .i64 0, .int .i64 0, .int .i64 0, .int .i64 0, .int .i64 0, .int .i64 0, .int .i64 0, .slice none 0 0])
  have HB := Lib.hid ((Below.refl w.heap.size w).alloc (Nat.le_refl _) (.cells #[.string ⟨#[]⟩, .int .i64 0, .int .i64 0, .int .i64 0, .int .i64 0, .int .i64 0, .int .i64 0, .int .i64 0, .int .i64 0, .int .i64 0, .int .i64 0, .int .i64 0, .int .i64 0, .int .i64 0, .int .i64 0, .int .i64 0, .int .i64 0, .slice none 0 0] 29))
  go_enter Tryz.func112, Tryz.ntmps112
  go_upto_region 1 with fail
  generalize w.alloc (.cells #[.string ⟨#[]⟩, .int .i64 0, .int .i64 0, .int .i64 0, .int .i64 0, .int .i64 0, .int .i64 0, .int .i64 0, .int .i64 0, .int .i64 0, .int .i64 0, .int .i64 0, .int .i64 0, .int .i64 0, .int .i64 0, .int .i64 0, .int .i64 0, .slice none 0 0] 29) = W at HZ HB ⊢
  go_wp2_with (first | refine wpList_build2 rfl 37 _ rfl [(0, .int .i64 2), (1, .int .i64 10)] rfl TC10 plain_built ?_ | refine wpList_bslice2 rfl 27 37 1 _ rfl [(0, .agg TC10)] rfl TC10 i0 _ Tryz.underlying27 H0.out H1.out H2.out H3.out H4.out ?_ | refine wpList_build2 rfl 29 _ rfl [(0, .string ⟨#[112]⟩), (2, .int .i64 9), (3, .int .i64 2), (4, .int .i64 6), (11, .slice (some ⟨W.heap.size, 0, none⟩) 1 1)] rfl _ (plain_plan _) ?_ | refine wpList_store_row rfl 29 (.tmp 0) (.tmp 3) rfl w.heap.size (plnC plainP (.slice (some ⟨W.heap.size, 0, none⟩) 1 1)) rfl rfl 29 #[.string ⟨#[]⟩, .int .i64 0, .int .i64 0, .int .i64 0, .int .i64 0, .int .i64 0, .int .i64 0, .int .i64 0, .int .i64 0, .int .i64 0, .int .i64 0, .int .i64 0, .int .i64 0, .int .i64 0, .int .i64 0, .int .i64 0, .int .i64 0, .slice none 0 0] (HZ.out.alloc _) (by kernel_rfl) rfl (by kernel_rfl) ?_)
  have hA := (HZ.out.alloc (.cells TC10 37)).row_set (plnC plainP (.slice (some ⟨W.heap.size, 0, none⟩) 1 1))
  refine bodyPost_ret (v := .agg (plnC plainP (.slice (some ⟨W.heap.size, 0, none⟩) 1 1))) (by exact results_cell_row Tryz.results112 _ _ w.heap.size 29 _ (0, 0) _ rfl hA Tryz.underlying29 rfl (by kernel_rfl)) rfl ⟨W.heap.size, rfl, ?_, ?_⟩
  · exact plain_list ((Tide.At.made W 37 TC10).row_other (by have := HZ.out.inside; omega) _)
  · exact (HB.out.alloc HB.out.size _).setRow (Nat.le_refl _) _
theorem two_ret {a b c d : Int} (h1 : a = c) (h2 : b = d) : Ending.returned (.tuple #[.int .i64 a, .int .i64 b]) = .returned (.tuple #[.int .i64 c, .int .i64 d]) := by rw [h1, h2]
theorem plainP_ok : planE plainP = 0 := by decide +kernel
theorem plainP_fits : ∀ t ∈ plainP.trigs, t.fits := by
  intro t ht
  have e : t = plainT := by simpa [plainP] using ht
  subst e
  exact ⟨by unfold Cr.fits plainT; decide, by unfold Cr.fits plainT; decide⟩
theorem looks_facts : let l0 := newLp plainP
    let l1 := lookL l0 1 0 0 [⟨false, [25]⟩] false; let l2 := lookL l1 3 0 3 [⟨false, [0]⟩] false; let l3 := lookL l2 7 0 1 [⟨false, [0]⟩] false
    (lookN l0 1 0 0 [⟨false, [25]⟩] false = 3 ∧ lookE l0 1 0 0 1 = 0 ∧ lookN l1 3 0 3 [⟨false, [0]⟩] false = 1 ∧ lookE l1 3 0 3 1 = 0) ∧ lookN l2 7 0 1 [⟨false, [0]⟩] false = 0 ∧ lookE l2 7 0 1 1 = 0 ∧ dueB l3 9 = true ∧ dueB l3 8 = false := by decide +kernel
end Go.Proofs.YtlfaogkdghnmcaaGreat


namespace Go.Proofs.YtlfaogkdghnmcaaGreat
open Go.RowKit
set_option linter.unusedVariables false
def failP (mn back after : Int) : Pln := ⟨⟨#[112]⟩, mn, 9, 2, 6, 0, back, after, 0, ⟨0, 0, 0, 0⟩, ⟨0, 0, 0, 0⟩, [plainT]⟩
theorem failP_ok {mn back after : Int} (a : 0 ≤ mn ∧ mn ≤ 4) (b : 0 ≤ back ∧ back ≤ 14) (c : 0 ≤ after ∧ after ≤ 5) : planE (failP mn back after) = 0 := by
  have h1 : nameOk (failP mn back after).name = true := by show nameOk ⟨#[112]⟩ = true; decide +kernel
  have h2 : (failP mn back after).nums = true := by
    unfold Pln.nums
    simp only [Bool.and_eq_true, wiB_iff]
    refine ⟨⟨?_, ?_⟩, ⟨?_, ?_⟩, ⟨?_, ?_⟩, ⟨?_, ?_⟩, ⟨?_, ?_⟩, ⟨?_, ?_⟩, ⟨?_, ?_⟩, ⟨?_, ?_⟩, (show paceOk ⟨0, 0, 0, 0⟩ = true by decide +kernel), (show paceOk ⟨0, 0, 0, 0⟩ = true by decide +kernel)⟩ <;> simp only [failP] <;> omega
  have h3 : trigsE (failP mn back after).trigs = 0 := by show trigsE [plainT] = 0; decide +kernel
  unfold planE
  rw [h1, h2, if_neg (by decide), if_neg (by show ¬ 5 < 1; omega), if_neg (by decide)]
  exact h3
structure FInv (P : Pln) (i : Nat) (l : Lp) : Prop where
  p : l.p = P
  fails : l.fails = [(i : Int)]
  pause : l.pause = -1
  last : l.last ≤ (i : Int)
  ok : l.ok i
  free : Free l.s
theorem failP_new {mn back after : Int} (a : 0 ≤ mn ∧ mn ≤ 4) (b : 0 ≤ back ∧ back ≤ 14) (c : 0 ≤ after ∧ after ≤ 5) (hf : ∀ t ∈ (failP mn back after).trigs, t.fits) : FInv (failP mn back after) 0 (newLp (failP mn back after)) :=
  ⟨rfl, rfl, rfl, Int.le_refl _, newLp_ok (failP_ok a b c) hf, (show Free ⟨Tide.Pace.fix ⟨0, 0, 0, 0⟩, Tide.Pace.fix ⟨0, 0, 0, 0⟩, 0, [], []⟩ by unfold Free; decide +kernel)⟩
theorem fail_step {mn back after h : Int} {i : Nat} {l : Lp} (a : 0 ≤ mn ∧ mn ≤ 4) (b : 0 ≤ back ∧ back ≤ 14) (hi : i ≤ 6) (h0 : 0 ≤ h) (h1 : h ≤ 11) (H : FInv (failP mn back after) i l) :
    lookN l i 0 h [⟨true, []⟩] false = min (max (max (if 0 < after ∧ after ≤ (i : Int) + 1 then back else h) mn) 1) 9 ∧ lookE l i 0 h 1 = 0 ∧ FInv (failP mn back after) (i + 1) (lookL l i 0 h [⟨true, []⟩] false) := by
  obtain ⟨hp, hf, hpa, hl, hok, hfr⟩ := H
  have hk : lookOk l i 0 h 1 = true := lookOk_iff.2 ⟨hl, by omega, by omega, by omega, h0, by omega, by rw [hp]; rfl⟩
  obtain ⟨e1, e2, e3⟩ := look_fine (rs := [⟨true, []⟩]) (busy := false) (show lookOk l i 0 h ([⟨true, []⟩] : List Rd).length = true from hk) (by rw [hpa]; omega)
  have hsf : (l.seen i [⟨true, []⟩]).fails = [(i : Int) + 1] := by
    show failsL l.p.trigs _ l.fails = _
    rw [hp, hf]; rfl
  have hone : oneT (failP mn back after) plainT ((i : Int) + 1) ⟨true, []⟩ 0 h = (if 0 < after ∧ after ≤ (i : Int) + 1 then back else h, true) := by
    unfold oneT; rw [if_pos (by omega)]; rfl
  have ht : (l.seen i [⟨true, []⟩]).told 0 h [⟨true, []⟩] false = (max 0 (if 0 < after ∧ after ≤ (i : Int) + 1 then back else h), true) := by
    unfold Lp.told
    rw [hsf]
    show allT l.p 0 h l.p.trigs _ _ _ = _
    rw [hp]
    show (max 0 (oneT (failP mn back after) plainT ((i : Int) + 1) ⟨true, []⟩ 0 h).1, false || (oneT (failP mn back after) plainT ((i : Int) + 1) ⟨true, []⟩ 0 h).2) = _
    rw [hone]; rfl
  generalize hw : (if 0 < after ∧ after ≤ (i : Int) + 1 then back else h) = want at *
  have hwb : 0 ≤ want ∧ want ≤ 14 := by rw [← hw]; split <;> omega
  have hlow : ∀ nd, lowOf l.p nd i h true = max mn 1 := fun nd => by rw [hp]; rfl
  have hwish : (l.seen i [⟨true, []⟩]).wish i 0 h [⟨true, []⟩] false = min (max (max want mn) 1) 9 := by
    unfold Lp.wish
    rw [ht]
    show clipOf (lowOf l.p _ i h true) l.p.mx (max 0 want) = _
    rw [hlow, hp]
    show min (max (max 0 want) (max mn 1)) 9 = _
    omega
  have hsl := hok.sl
  have hset : Tide.settleN l.s i h (min (max (max want mn) 1) 9) = min (max (max want mn) 1) 9 := free_says hok.st hfr (by
    unfold Tide.settleOk
    rw [decide_eq_true (show l.s.last ≤ (i : Int) by omega), decide_eq_true (show (i : Int) ≤ 1099511627776 by omega), decide_eq_true h0, decide_eq_true (show h ≤ 50 by omega), decide_eq_true (show 0 ≤ min (max (max want mn) 1) 9 by omega), decide_eq_true (show min (max (max want mn) 1) 9 ≤ 50 by omega)]; rfl)
  refine ⟨?_, e2, ?_⟩
  · rw [e1, hwish, hset, ht]
    show clipOf (lowOf l.p _ i h true) l.p.mx _ = _
    rw [hlow, hp]
    show min (max (min (max (max want mn) 1) 9) (max mn 1)) 9 = _
    omega
  · refine ⟨by rw [lookL_p]; exact hp, ?_, ?_, ?_, look_ok hok, ?_⟩
    · rw [e3, ht]; show (l.seen i _).fails = _; rw [hsf]; simp
    · rw [e3, ht]; exact hpa
    · rw [e3, ht]; show (i : Int) ≤ _; omega
    · rw [e3]; exact free_next hfr
/-- behind a look that went well nothing fails -/
theorem fail_last {mn back after h : Int} {l : Lp} (h0 : 0 ≤ h) (h1 : h ≤ 11) (H : FInv (failP mn back after) 7 l) : failsAt (lookL l 9 0 h [⟨false, [0]⟩] false) 0 = 0 := by
  obtain ⟨hp, hf, hpa, hl, hok, hfr⟩ := H
  have hk : lookOk l 9 0 h 1 = true := lookOk_iff.2 ⟨by omega, by omega, by omega, by omega, h0, by omega, by rw [hp]; rfl⟩
  obtain ⟨_, _, e3⟩ := look_fine (rs := [⟨false, [0]⟩]) (busy := false) (show lookOk l 9 0 h ([⟨false, [0]⟩] : List Rd).length = true from hk) (by rw [hpa]; omega)
  have hsf : (l.seen 9 [⟨false, [0]⟩]).fails = [0] := by
    show failsL l.p.trigs _ l.fails = _
    rw [hp, hf]; rfl
  have : (lookL l 9 0 h [⟨false, [0]⟩] false).fails = [0] := by
    rw [e3]
    cases ((l.seen 9 [⟨false, [0]⟩]).told 0 h [⟨false, [0]⟩] false).2 <;> exact hsf
  unfold failsAt
  rw [this]; rfl
theorem fails_now {P : Pln} {i : Nat} {l : Lp} (H : FInv P i l) : failsAt l 0 = i := by
  unfold failsAt
  rw [H.fails]; rfl
structure CInv (P : Pln) (k : Nat) (now needed : Int) (l : Lp) : Prop where
  p : l.p = P
  none : P.trigs = []
  pause : l.pause = -1
  last : l.last ≤ now
  need : l.needed = needed
  ok : l.ok k
theorem cool_new {P : Pln} (h : planE P = 0) (hn : P.trigs = []) : CInv P 0 0 0 (newLp P) := ⟨rfl, hn, rfl, Int.le_refl _, rfl, newLp_ok h (by rw [hn]; intro t ht; cases ht)⟩
theorem cool_step {P : Pln} {k : Nat} {now now' needed have0 : Int} {l : Lp} {is : Bool} (H : CInv P k now needed l) (hn : now ≤ now') (hb : now' ≤ 1000000000) (h0 : 1 ≤ have0) (h1 : have0 ≤ 50) :
    lookE l now' 0 have0 0 = 0 ∧ (0 ≤ lookN l now' 0 have0 [] is ∧ lookN l now' 0 have0 [] is ≤ 50) ∧
    (lookN l now' 0 have0 [] is = 0 → is = false ∧ P.cool ≤ now' - (if is then now' else needed) ∧ P.mn ≤ 0) ∧
    CInv P (k + 1) now' (if is then now' else needed) (lookL l now' 0 have0 [] is) := by
  obtain ⟨hp, hnil, hpa, hl, hne, hok⟩ := H
  have hP := planE_ok (hp ▸ hok.plan)
  have hk : lookOk l now' 0 have0 0 = true := lookOk_iff.2 ⟨by omega, by omega, by omega, by omega, by omega, h1, by rw [hp, hnil]; rfl⟩
  obtain ⟨e1, e2, e3⟩ := look_fine (rs := []) (busy := is) (show lookOk l now' 0 have0 ([] : List Rd).length = true from hk) (by rw [hpa]; omega)
  have ht : (l.seen now' []).told 0 have0 [] is = (0, is) := by
    unfold Lp.told
    show allT l.p 0 have0 l.p.trigs [] _ (0, is) = _
    rw [hp, hnil]; rfl
  have hmn := hP.mn
  have hmx := hP.mx
  have hco := hP.cool
  generalize hx : Tide.settleN l.s now' have0 ((l.seen now' []).wish now' 0 have0 [] is) = x at *
  have hN : lookN l now' 0 have0 [] is = clipOf (lowOf P ((l.seen now' []).marked now' is).needed now' have0 is) P.mx x := by rw [e1, ht, hp]
  have hneed : ((l.seen now' []).marked now' is).needed = if is then now' else needed := by cases is <;> first | rfl | exact hne
  refine ⟨e2, ?_, ?_, ?_⟩
  · rw [hN]; exact clipOf_bd (lowOf_nonneg hmn.1 _ _ _ _) (by omega) (by omega)
  · intro hz
    rw [hN, hneed] at hz
    cases is
    · simp only [Bool.false_eq_true, if_false] at hz ⊢
      refine ⟨by simp, ?_⟩
      unfold lowOf clipOf at hz
      simp only [Bool.false_eq_true, if_false] at hz
      split at hz <;> omega
    · exfalso
      unfold lowOf clipOf at hz
      simp only [if_true] at hz
      omega
  · refine ⟨by rw [lookL_p]; exact hp, hnil, ?_, ?_, ?_, look_ok hok⟩
    · rw [e3, ht]; cases is <;> exact hpa
    · rw [e3, ht]; cases is <;> exact Int.le_refl _
    · rw [e3, ht]; cases is <;> first | exact hne | rfl
end Go.Proofs.YtlfaogkdghnmcaaGreat
