/- A loop of the call's own, call by call; the plain plan, a depth; the small check 'looks'. -/
import Derived.Test.YtcnoapogeohmkaaZLopC
import Derived.Test.YtcnoapogeohmkaaLopG
set_option linter.unusedVariables false
set_option linter.unusedSimpArgs false
namespace Go.Proofs.Ytcnoapogeohmkaa
open Go.RowKit
set_option linter.unusedVariables false
/-- a loop in blocks of the call's own, below top -/
def LopRun (w0 : World) (top : Nat) (w : World) (g : Nat) (l : Lp) : Prop :=
  ∃ (gs : Nat) (vt vf vw vm : Value) (S1 S2 : Nat → Prop), LopAt 73 94 96 S1 S2 w g gs vt vf vw vm l ∧ (∀ b, S1 b ∨ S2 b → w0.heap.size ≤ b ∧ b < top) ∧ Below w0.heap.size w0 w
theorem LopRun.below {w0 w w' : World} {top g : Nat} {l : Lp} (h : LopRun w0 top w g l) (hb : Below w.heap.size w w') : LopRun w0 top w' g l := by
  obtain ⟨gs, vt, vf, vw, vm, S1, S2, h1, h2, h3⟩ := h
  exact ⟨gs, vt, vf, vw, vm, S1, S2, h1.below hb, h2, h3.trans (hb.mono h3.size)⟩
theorem LopRun.alloc {w0 w : World} {top g : Nat} {l : Lp} (h : LopRun w0 top w g l) (o : Obj) : LopRun w0 top (w.alloc o) g l := h.below ((Below.refl _ _).alloc (Nat.le_refl _) o)
theorem LopRun.drew {w0 w : World} {top g : Nat} {l : Lp} (h : LopRun w0 top w g l) : LopRun w0 top w.drew g l := h.below (Below.refl _ _).drew
theorem LopRun.out {w0 w : World} {top g : Nat} {l : Lp} (h : LopRun w0 top w g l) : Below w0.heap.size w0 w := by obtain ⟨_, _, _, _, _, _, _, _, _, h⟩ := h; exact h
theorem LopRun.top {w0 w : World} {top g : Nat} {l : Lp} (h : LopRun w0 top w g l) : LopRun w0 w.heap.size w g l := by
  obtain ⟨gs, vt, vf, vw, vm, S1, S2, h1, h2, h3⟩ := h
  exact ⟨gs, vt, vf, vw, vm, S1, S2, h1, fun b hb => ⟨(h2 b hb).1, hb.elim (h1.lim b) (h1.st.lim b)⟩, h3⟩
theorem runNew {w0 w w' : World} {p : Pln} {e : Ending} (hb : Below w0.heap.size w0 w) (h : NewLopPost 73 94 96 w p e w') : ∃ g, e = .returned (.tuple #[.pointer (some ⟨g, 0, none⟩), .int .i64 0]) ∧ LopRun w0 w'.heap.size w' g (newLp p) := by
  obtain ⟨g, gs, vt, vf, S1, S2, rfl, hl, h1, h2, hb2⟩ := h
  have z := hb.size
  exact ⟨g, rfl, gs, vt, vf, _, _, S1, S2, hl, fun b hb3 => ⟨by rcases hb3 with hb3 | hb3; have := h1 b hb3; omega; have := h2 b hb3; omega, hb3.elim (hl.lim b) (hl.st.lim b)⟩, hb.trans (hb2.mono hb.size)⟩
theorem runLook (w0 : World) (top : Nat) (R : Nat → Prop) (g : Nat) (v : Value) (l : Lp) (now sec have0 : Int) (rs : List RdV) (busy : Bool) (j : Nat) (w : World) (h : LopRun w0 top w g l) (hr : RdsIn R w v rs) (hR : ∀ b, R b → b < w0.heap.size ∨ top ≤ b) (hl : l.ok j) (hj : j ≤ 90000) (hrl : rs.length ≤ 9223372036854775807) :
    Calls Try.prog 10 #[.pointer (some ⟨g, 0, none⟩), .int .i64 now, .int .i64 sec, .int .i64 have0, v, .bool busy] w fun e w' => e = .returned (.tuple #[.int .i64 (lookN l now sec have0 (rs.map RdV.rd) busy), .int .i64 (lookE l now sec have0 (rs.map RdV.rd).length)]) ∧ LopRun w0 w'.heap.size w' g (lookL l now sec have0 (rs.map RdV.rd) busy) ∧ Tide.Chg (fun b => w0.heap.size ≤ b ∧ b < top) w w' := by
  obtain ⟨gs, vt, vf, vw, vm, S1, S2, h1, h2, h3⟩ := h
  refine (lopLook S1 S2 R g gs vt vf vw vm v l now sec have0 rs busy j w h1 hr (fun b hb => ⟨fun hs => by have := h2 b (.inl hs); have := hR b hb; omega, fun hs => by have := h2 b (.inr hs); have := hR b hb; omega⟩) hl hj hrl).mono ?_
  rintro e w' ⟨he, ⟨vw', vm', h4⟩, hc⟩
  refine ⟨he, ⟨gs, vt, vf, vw', vm', S1, _, h4, fun b hb => ⟨?_, hb.elim (h4.lim b) (h4.st.lim b)⟩, ?_⟩, hc.mono fun b _ hb => h2 b hb⟩
  · rcases hb with hb | hb | hb
    · exact (h2 b (.inl hb)).1
    · exact (h2 b (.inr hb)).1
    · have := h3.size; omega
  · exact h3.trans (hc.below h3.size (fun b hb hs => by have := h2 b hs; omega))
theorem runDue (w0 : World) (top g : Nat) (l : Lp) (now : Int) (j : Nat) (w : World) (h : LopRun w0 top w g l) (hl : l.ok j) (n0 : -9223372036854775808 ≤ now) (n1 : now ≤ 9223372036854775807) :
    Calls Try.prog 19 #[.pointer (some ⟨g, 0, none⟩), .int .i64 now] w fun e w' => e = .returned (.bool (dueB l now)) ∧ Below w.heap.size w w' := by
  obtain ⟨gs, vt, vf, vw, vm, S1, S2, h1, h2, h3⟩ := h
  exact lopDue _ g gs vt vf l now w h1.head n0 n1 hl.last0 hl.last1
/-- the slice of one reading, of one number -/
theorem rds_one {R : Nat → Prop} {w : World} {b1 b2 c1 : Nat} {f : Bool} {n : Int} (h1 : Tide.At w b1 3 #[.int .i64 n]) (h2 : Tide.At w b2 40 #[.bool f, .slice (some ⟨b1, 0, none⟩) 1 c1]) (r1 : R b1) (r2 : R b2) :
    RdsIn R w (.slice (some ⟨b2, 0, none⟩) 1 1) [⟨f, some ⟨b1, 0, none⟩, c1, [n]⟩] := by
  refine ⟨⟨some ⟨b2, 0, none⟩, 1, rfl, fun _ => ⟨b2, 0, rfl, r2, h2.inside, fun i r j u hi hj => ?_⟩⟩, fun r hr => ?_, fun r hr => ?_⟩
  · rcases i with _ | i
    · simp at hi; subst hi
      rcases j with _ | _ | j
      · simp [RdV.enc] at hj; subst hj; exact h2.here rfl
      · simp [RdV.enc] at hj; subst hj; exact h2.here rfl
      · simp [RdV.enc] at hj
    · simp at hi
  · simp at hr; subst hr
    exact fun _ => ⟨b1, 0, rfl, r1, h1.inside, fun i x hi => by
      rcases i with _ | i
      · simp at hi; subst hi; exact h1.here rfl
      · simp at hi⟩
  · simp at hr; subst hr; show 1 ≤ _; omega
theorem rds_fail {R : Nat → Prop} {w : World} {b2 : Nat} {f : Bool} (h2 : Tide.At w b2 40 #[.bool f, .slice none 0 0]) (r2 : R b2) :
    RdsIn R w (.slice (some ⟨b2, 0, none⟩) 1 1) [⟨f, none, 0, []⟩] := by
  refine ⟨⟨some ⟨b2, 0, none⟩, 1, rfl, fun _ => ⟨b2, 0, rfl, r2, h2.inside, fun i r j u hi hj => ?_⟩⟩, fun r hr => ?_, fun r hr => ?_⟩
  · rcases i with _ | i
    · simp at hi; subst hi
      rcases j with _ | _ | j
      · simp [RdV.enc] at hj; subst hj; exact h2.here rfl
      · simp [RdV.enc] at hj; subst hj; exact h2.here rfl
      · simp [RdV.enc] at hj
    · simp at hi
  · simp at hr; subst hr; exact fun h0 => by simp at h0
  · simp at hr; subst hr; show 0 ≤ _; omega
def PlainPost (w : World) (e : Ending) (w' : World) : Prop := ∃ b, e = .returned (plnV plainP (.slice (some ⟨b, 0, none⟩) 1 1)) ∧ Tide.ListIn w' 17 Trg.enc (.slice (some ⟨b, 0, none⟩) 1 1) [plainT] ∧ Below w.heap.size w w'
theorem plain_list {w : World} {b : Nat} (h : Tide.At w b 65 TC10) : Tide.ListIn w 17 Trg.enc (.slice (some ⟨b, 0, none⟩) 1 1) [plainT] := by
  refine ⟨some ⟨b, 0, none⟩, 1, rfl, fun _ => ⟨b, 0, rfl, h.inside, fun i a j u hi hj => ?_⟩⟩
  rcases i with _ | i
  · simp at hi; subst hi
    rw [Nat.zero_mul, Nat.add_zero, Nat.zero_add]
    refine h.here ?_
    rw [← Array.getElem?_toList]
    exact hj
  · simp at hi
set_option maxRecDepth 100000 in
set_option maxHeartbeats 1600000 in
theorem plainPlanC (w : World) : Calls Try.prog 11 #[] w (PlainPost w) := by
  obtain ⟨i0, hi0, hz0, hz1⟩ := info2 plain_trg
  have hz2 : ¬ 1 * i0.size > 2 ^ 24 := by rw [hz1]; decide
  have hz3 : ¬ 1 * i0.size = 0 := by rw [hz1]; decide
  have hz4 : Instr.fill (fun i => some (i * i0.size, i0.size)) ((Array.range (1 * i0.size)).map ((Value.agg #[.int .i64 0, .int .i64 0, .int .i64 0, .int .u64 0, .int .u64 0, .int .u64 0, .int .u64 0, .int .u64 0, .bool false, .bool false, .int .u64 0, .int .u64 0, .int .u64 0, .int .u64 0, .int .u64 0, .bool false, .bool false]).cells[· % (Value.agg #[.int .i64 0, .int .i64 0, .int .i64 0, .int .u64 0, .int .u64 0, .int .u64 0, .int .u64 0, .int .u64 0, .bool false, .bool false, .int .u64 0, .int .u64 0, .int .u64 0, .int .u64 0, .int .u64 0, .bool false, .bool false]).cells.size]!)) [(0, .agg TC10)] = some TC10 := by rw [hz1]; exact plain_fill
  have H0 := Lib.hid hi0; have H1 := Lib.hid hz0; have H2 := Lib.hid hz2; have H3 := Lib.hid hz3; have H4 := Lib.hid hz4
  clear hi0 hz0 hz1 hz2 hz3 hz4
  have HZ := Lib.hid (Tide.At.made w 26 #[.string ⟨#[]⟩, .int .i64 0, .int .i64 0, .int .i64 0, .int .i64 0, .int .i64 0, .int .i64 0, .int .i64 0, .int .i64 0, .int .i64 0, .int .i64 0, .int .i64 0, .int .i64 0, .int .i64 0, .int .i64 0, .int .i64 0, .int .i64 0, .slice none 0 0])
  have HB := Lib.hid ((Below.refl w.heap.size w).alloc (Nat.le_refl _) (.cells #[.string ⟨#[]⟩, .int .i64 0, .int .i64 0, .int .i64 0, .int .i64 0, .int .i64 0, .int .i64 0, .int .i64 0, .int .i64 0, .int .i64 0, .int .i64 0, .int .i64 0, .int .i64 0, .int .i64 0, .int .i64 0, .int .i64 0, .int .i64 0, .slice none 0 0] 26))
  go_enter Try.func11, Try.ntmps11
  go_upto_region 1 with fail
  generalize w.alloc (.cells #[.string ⟨#[]⟩, .int .i64 0, .int .i64 0, .int .i64 0, .int .i64 0, .int .i64 0, .int .i64 0, .int .i64 0, .int .i64 0, .int .i64 0, .int .i64 0, .int .i64 0, .int .i64 0, .int .i64 0, .int .i64 0, .int .i64 0, .int .i64 0, .slice none 0 0] 26) = W at HZ HB ⊢
  go_wp2_with (first | refine wpList_build2 rfl 65 _ rfl [(0, .int .i64 2), (1, .int .i64 10)] rfl TC10 plain_built ?_ | refine wpList_bslice2 rfl 24 65 1 _ rfl [(0, .agg TC10)] rfl TC10 i0 _ Try.underlying24 H0.out H1.out H2.out H3.out H4.out ?_ | refine wpList_build2 rfl 26 _ rfl [(0, .string ⟨#[112]⟩), (2, .int .i64 9), (3, .int .i64 2), (4, .int .i64 6), (11, .slice (some ⟨W.heap.size, 0, none⟩) 1 1)] rfl _ (plain_plan _) ?_ | refine wpList_store_row rfl 26 (.tmp 0) (.tmp 3) rfl w.heap.size (plnC plainP (.slice (some ⟨W.heap.size, 0, none⟩) 1 1)) rfl rfl 26 #[.string ⟨#[]⟩, .int .i64 0, .int .i64 0, .int .i64 0, .int .i64 0, .int .i64 0, .int .i64 0, .int .i64 0, .int .i64 0, .int .i64 0, .int .i64 0, .int .i64 0, .int .i64 0, .int .i64 0, .int .i64 0, .int .i64 0, .int .i64 0, .slice none 0 0] (HZ.out.alloc _) (by kernel_rfl) rfl (by kernel_rfl) ?_)
  have hA := (HZ.out.alloc (.cells TC10 65)).row_set (plnC plainP (.slice (some ⟨W.heap.size, 0, none⟩) 1 1))
  refine bodyPost_ret (v := .agg (plnC plainP (.slice (some ⟨W.heap.size, 0, none⟩) 1 1))) (by exact results_cell_row Try.results11 _ _ w.heap.size 26 _ (0, 0) _ rfl hA Try.underlying26 rfl (by kernel_rfl)) rfl ⟨W.heap.size, rfl, ?_, ?_⟩
  · exact plain_list ((Tide.At.made W 65 TC10).row_other (by have := HZ.out.inside; omega) _)
  · exact (HB.out.alloc HB.out.size _).setRow (Nat.le_refl _) _
set_option maxRecDepth 100000 in
set_option maxHeartbeats 1600000 in
theorem depthC (n : Int) (w : World) : Calls Try.prog 13 #[.int .i64 n] w fun e w' => e = .returned (.slice (some ⟨w.heap.size + 1, 0, none⟩) 1 1) ∧ RdsIn (fun b => w.heap.size ≤ b) w' (.slice (some ⟨w.heap.size + 1, 0, none⟩) 1 1) [⟨false, some ⟨w.heap.size, 0, none⟩, 1, [n]⟩] ∧ Below w.heap.size w w' := by
  have h1 := (Tide.At.made w 3 #[.int .i64 n]).alloc (.cells #[.bool false, .slice (some ⟨w.heap.size, 0, none⟩) 1 1] 40)
  have h2 := Tide.At.made (w.alloc (.cells #[.int .i64 n] 3)) 40 #[.bool false, .slice (some ⟨w.heap.size, 0, none⟩) 1 1]
  simp only [World.size_alloc] at h2
  have hb := ((Below.refl w.heap.size w).alloc (Nat.le_refl _) (.cells #[.int .i64 n] 3)).alloc (by simp) (.cells #[.bool false, .slice (some ⟨w.heap.size, 0, none⟩) 1 1] 40)
  have HF := Lib.hid (rds_one (R := fun b => w.heap.size ≤ b) h1 h2 (Nat.le_refl _) (by omega))
  have HB := Lib.hid hb
  clear h1 h2 hb
  go_enter Try.func13, Try.ntmps13
  go_wp2_with fail
  go_ret
  exact ⟨rfl, HF.out, HB.out⟩
theorem two_ret {a b c d : Int} (h1 : a = c) (h2 : b = d) : Ending.returned (.tuple #[.int .i64 a, .int .i64 b]) = .returned (.tuple #[.int .i64 c, .int .i64 d]) := by rw [h1, h2]
theorem plainP_ok : planE plainP = 0 := by decide +kernel
theorem plainP_fits : ∀ t ∈ plainP.trigs, t.fits := by
  intro t ht
  have e : t = plainT := by simpa [plainP] using ht
  subst e
  exact ⟨by unfold Cr.fits plainT; decide, by unfold Cr.fits plainT; decide⟩
theorem looks_facts : let l0 := newLp plainP
    let l1 := lookL l0 1 0 0 [⟨false, [25]⟩] false; let l2 := lookL l1 3 0 3 [⟨false, [0]⟩] false; let l3 := lookL l2 7 0 1 [⟨false, [0]⟩] false
    (lookN l0 1 0 0 [⟨false, [25]⟩] false = 3 ∧ lookE l0 1 0 0 1 = 0 ∧ lookN l1 3 0 3 [⟨false, [0]⟩] false = 1 ∧ lookE l1 3 0 3 1 = 0) ∧ lookN l2 7 0 1 [⟨false, [0]⟩] false = 0 ∧ lookE l2 7 0 1 1 = 0 ∧ dueB l3 9 = true ∧ dueB l3 8 = false := by decide +kernel
set_option maxRecDepth 100000 in
set_option maxHeartbeats 3200000 in
theorem looksC (w : World) : Calls Try.prog 7 #[] w fun e w' => e = .returned (.bool true) ∧ Below w.heap.size w w' := by
  obtain ⟨⟨f1, f2, f3, f4⟩, f5, f6, f7, f8⟩ := looks_facts
  have F1 := Lib.hid f1; have F2 := Lib.hid f2; have F3 := Lib.hid f3; have F4 := Lib.hid f4; have F5 := Lib.hid f5; have F6 := Lib.hid f6; have F7 := Lib.hid f7; have F8 := Lib.hid f8
  have K0 := Lib.hid (newLp_ok plainP_ok plainP_fits)
  clear f1 f2 f3 f4 f5 f6 f7 f8
  go_enter Try.func7, Try.ntmps7
  go_wp2_with fail
  refine (plainPlanC _).mono ?_
  rintro e w1 ⟨b, rfl, hL, hb1⟩
  have HL := Lib.hid hL; have HB1 := Lib.hid hb1
  clear hL hb1
  go_wp2_with fail
  refine (lopNewYes plainP _ _ w1 HL.out plainP_fits (by show 1 ≤ _; omega) (by show 1 ≤ _; omega) plainP_ok).mono ?_
  intro e w2 h2
  obtain ⟨g, rfl, hr⟩ := runNew HB1.out h2
  have HR := Lib.hid hr
  clear h2 hr HL HB1
  go_wp2_with fail
  refine (depthC 25 _).mono ?_
  rintro e v0 ⟨rfl, hd, hb⟩
  have HR0a := Lib.hid (HR.out.below hb); have HD0 := Lib.hid hd
  clear hd hb HR
  go_wp2_with fail
  refine (runLook w w2.heap.size (fun b => w2.heap.size ≤ b) g _ _ 1 0 0 _ false 0 _ HR0a.out HD0.out (fun b hb => .inr hb) K0.out (by omega) (by show 1 ≤ _; omega)).mono ?_
  rintro e u0 ⟨he, hr, _⟩
  obtain rfl := he.trans (two_ret F1.out F2.out)
  have K1 := Lib.hid (look_ok (now := 1) (sec := 0) (have0 := 0) (rs := [⟨false, [25]⟩]) (busy := false) K0.out)
  have HR0b : Hid (LopRun w u0.heap.size u0 g (lookL (newLp plainP) 1 0 0 [⟨false, [25]⟩] false)) := Lib.hid hr
  clear hr HR0a HD0 K0 F1 F2
  generalize lookL (newLp plainP) 1 0 0 [⟨false, [25]⟩] false = l1 at *
  go_wp2_with fail
  refine (depthC 0 _).mono ?_
  rintro e v1 ⟨rfl, hd, hb⟩
  have HR1a := Lib.hid (HR0b.out.below hb); have HD1 := Lib.hid hd
  clear hd hb HR0b
  go_wp2_with fail
  refine (runLook w u0.heap.size (fun b => u0.heap.size ≤ b) g _ _ 3 0 3 _ false 1 _ HR1a.out HD1.out (fun b hb => .inr hb) K1.out (by omega) (by show 1 ≤ _; omega)).mono ?_
  rintro e u1 ⟨he, hr, _⟩
  obtain rfl := he.trans (two_ret F3.out F4.out)
  have K2 := Lib.hid (look_ok (now := 3) (sec := 0) (have0 := 3) (rs := [⟨false, [0]⟩]) (busy := false) K1.out)
  have HR1b : Hid (LopRun w u1.heap.size u1 g (lookL l1 3 0 3 [⟨false, [0]⟩] false)) := Lib.hid hr
  clear hr HR1a HD1 K1 F3 F4
  generalize lookL l1 3 0 3 [⟨false, [0]⟩] false = l2 at *
  go_wp2_with fail
  refine (depthC 0 _).mono ?_
  rintro e v2 ⟨rfl, hd, hb⟩
  have HR2a := Lib.hid (HR1b.out.below hb); have HD2 := Lib.hid hd
  clear hd hb HR1b
  go_wp2_with fail
  refine (runLook w u1.heap.size (fun b => u1.heap.size ≤ b) g _ _ 7 0 1 _ false 2 _ HR2a.out HD2.out (fun b hb => .inr hb) K2.out (by omega) (by show 1 ≤ _; omega)).mono ?_
  rintro e u2 ⟨he, hr, _⟩
  obtain rfl := he.trans (two_ret F5.out F6.out)
  have K3 := Lib.hid (look_ok (now := 7) (sec := 0) (have0 := 1) (rs := [⟨false, [0]⟩]) (busy := false) K2.out)
  have HR2b : Hid (LopRun w u2.heap.size u2 g (lookL l2 7 0 1 [⟨false, [0]⟩] false)) := Lib.hid hr
  clear hr HR2a HD2 K2 F5 F6
  generalize lookL l2 7 0 1 [⟨false, [0]⟩] false = l3 at *
  go_wp2_with fail
  refine (runDue w _ g l3 9 3 _ HR2b.out K3.out (by omega) (by omega)).mono ?_
  rintro e x1 ⟨rfl, hb⟩
  rw [F7.out]
  have HRc := Lib.hid (HR2b.out.below hb)
  clear hb HR2b F7
  go_wp2_with fail
  refine (runDue w _ g l3 8 3 _ HRc.out K3.out (by omega) (by omega)).mono ?_
  rintro e x2 ⟨rfl, hb⟩
  rw [F8.out]
  have HRd := Lib.hid (HRc.out.below hb)
  clear hb HRc F8
  go_wp2_with fail
  go_ret
  exact ⟨rfl, HRd.out.out⟩
end Go.Proofs.Ytcnoapogeohmkaa
