/- A world: a look. -/
import Derived.Test.YtoidcbpcnikejaaGreatDoorDq37
set_option linter.unusedVariables false
set_option linter.unusedSimpArgs false
set_option maxRecDepth 100000
set_option maxHeartbeats 12800000
namespace Go.Proofs.YtoidcbpcnikejaaGreatDoor
open Go.RowKit
theorem rd_info : (Tryz.prog.info? 264).map (fun i => (i.zero, i.size, i.bytes)) = some (some (.agg #[.bool false, .slice none 0 0]), 2, 32) := by kernel_rfl
theorem rds_of {S Q : Nat → Prop} {w : World} {v : Value} {rs : List RdV} (h : G.OwnRow S w 264 2 v rs.length (rs.flatMap RdV.enc)) (hn : ∀ r ∈ rs, NumsOf Q w r.A r.xs ∧ r.xs.length ≤ 20) : RdsIn (fun b => S b ∨ Q b) w v rs := by
 obtain ⟨A, cap, e, _, _, hA⟩ := h.slice
 refine ⟨⟨A, cap, e, fun h0 => ?_⟩, fun r hr => (hn r hr).1.mono fun b hb => .inr hb, fun r hr => by have := (hn r hr).2; omega⟩
 obtain ⟨g, e1, hS, hr⟩ := hA h0
 exact ⟨g, 0, e1, .inl hS, hr.inside, fun i r j u hi hj => by rw [Nat.zero_add]; exact hr.cell (G.flat_get RdV.enc_length hi hj)⟩
structure LookRun (R : Nat → Prop) (w wr : World) (p : Wp) (m : Wo) (k : Nat) (v : Value) (rs : List RdV) (S Q : Nat → Prop) : Prop where
 len : rs.length = k
 rds : rs.map RdV.rd = (m.reads).take k
 row : G.OwnRow S wr 264 2 v k (rs.flatMap RdV.enc)
 nums : ∀ r ∈ rs, NumsOf Q wr r.A r.xs ∧ r.xs.length ≤ 20
 dis : ∀ b, S b → ¬ Q b
 new : ∀ b, S b ∨ Q b → w.heap.size ≤ b
 wo : WoN (fun b => R b ∨ (S b ∨ Q b)) wr p { m with q := qAfter (m.l.p.trigs.take k) m.q m.now }
 chg : G.Chg (fun b => ¬ R b) w wr
theorem reads_get {m : Wo} {k : Nat} {t : Trg} {x : Bool} (ht : m.l.p.trigs[k]? = some t) (hx : m.fails[k]? = some x) : m.reads[k]? = some (readOf t x m.t m.q m.now) := by
 unfold Wo.reads
 generalize m.l.p.trigs = ts at ht
 generalize m.fails = bs at hx
 induction ts generalizing bs k with
 | nil => simp at ht
 | cons t' ts ih =>
  cases bs with
  | nil => simp at hx
  | cons b bs =>
   rcases k with _ | k
   ·simp at ht hx; subst ht; subst hx; rfl
   exact ih (k := k) (by simpa using ht) bs (by simpa using hx)
theorem qAfter_take {ts : List Trg} {q : List G.Msg} {now : Int} {k : Nat} {t : Trg} (ht : ts[k]? = some t) : qAfter [t] (qAfter (ts.take k) q now) now = qAfter (ts.take (k + 1)) q now := by
 rw [G.take_of_get ht]
 unfold qAfter
 rw [List.any_append]
 cases h1 : (ts.take k).any isDepth <;> cases h2 : [t].any isDepth <;> simp [G.now_now]
theorem readOf_after (t : Trg) (x : Bool) (tp : List (Int × Int)) (ts : List Trg) (q : List G.Msg) (now : Int) : readOf t x tp (qAfter ts q now) now = readOf t x tp q now := by
 unfold qAfter
 by_cases c : ts.any isDepth = true
 ·rw [if_pos c]; unfold readOf; rw [G.depth_now]
 rw [if_neg c]
theorem LookRun.start {R : Nat → Prop} {w : World} {p : Wp} {m : Wo} (h : WoN R w p m) : LookRun R w w p m 0 (.slice none 0 0) [] (fun _ => False) (fun _ => False) :=
 ⟨rfl, rfl, G.OwnRow.nil _ _ _ _, fun r hr => (by cases hr), fun _ h => h.elim, fun _ h => h.elim (fun h => h.elim) (fun h => h.elim), h.mono fun b hb => hb.elim id (fun h => h.elim (fun h => h.elim) (fun h => h.elim)), G.Chg.refl _ _⟩
theorem LookRun.next {R S Q Q1 : Nat → Prop} {w wr w2 w5 : World} {p : Wp} {m : Wo} {k : Nat} {v v' : Value} {rs : List RdV} {r : RdV} {t : Trg} {x : Bool} {o : Obj} (hR : ∀ b, R b → b < w.heap.size) (h : LookRun R w wr p m k v rs S Q) (ht : m.l.p.trigs[k]? = some t) (hx : m.fails[k]? = some x)
  (h1 : r.rd = readOf t x m.t (qAfter (m.l.p.trigs.take k) m.q m.now) m.now) (h2 : NumsOf Q1 w2 r.A r.xs) (h3 : r.xs.length ≤ 20) (h4 : ∀ b, Q1 b → wr.heap.size ≤ b) (h5 : WoN (fun b => (R b ∨ (S b ∨ Q b)) ∨ Q1 b) w2 p { m with q := qAfter [t] (qAfter (m.l.p.trigs.take k) m.q m.now) m.now }) (h6 : G.Chg (fun b => ¬ (R b ∨ (S b ∨ Q b))) wr w2)
  (hown : w5.ownsRow 0 264 2 v' (k + 1) (rs.flatMap RdV.enc ++ r.enc)) (hg : (w2.alloc o).grownBy w5 v.ownBlock) (hv : v'.ownBlock = v.ownBlock ∨ v'.ownBlock = some (w2.alloc o).heap.size) (hlt : ∀ g, v'.ownBlock = some g → g < w5.heap.size) :
  ∃ S' Q', LookRun R w w5 p m (k + 1) v' (rs ++ [r]) S' Q' := by
 have z1 := h6.size
 have z2 := hg.size
 simp only [World.size_alloc] at z2
 have hS : ∀ b, S b → b < wr.heap.size := fun b hb => h.wo.lt (.inr (.inl hb))
 have hQ : ∀ b, Q b → b < wr.heap.size := fun b hb => h.wo.lt (.inr (.inr hb))
 have hQ1 : ∀ b, Q1 b → b < w2.heap.size := fun b hb => h5.lt (.inr hb)
 have row2 : G.OwnRow S w2 264 2 v k (rs.flatMap RdV.enc) := h.row.chg h6 (fun b hb h => h (.inr (.inl hb)))
 have hvS : ∀ g, v.ownBlock = some g → S g := fun g hg => (row2.block g hg).1
 have c2 : G.Chg (fun b => v.ownBlock = some b) (w2.alloc o) w5 := (G.Chg.refl _ _).grown hg (fun g e => .inl e)
 have c3 : G.Chg (fun b => v.ownBlock = some b) w2 w5 := ((G.Chg.refl _ w2).alloc o).trans (c2.mono fun b _ hb => hb) |>.mono (fun b _ hb => hb)
 refine ⟨fun b => S b ∨ (w2.heap.size ≤ b ∧ b < w5.heap.size), fun b => Q b ∨ Q1 b, ?_⟩
 refine ⟨by rw [List.length_append, h.len]; rfl, ?_, ?_, ?_, ?_, ?_, ?_, ?_⟩
 ·rw [List.map_append, h.rds, G.take_of_get (reads_get ht hx)]
  show _ ++ [r.rd] = _
  rw [h1, readOf_after]
 ·rw [List.flatMap_append, show [r].flatMap RdV.enc = r.enc by simp]
  refine G.OwnRow.of_owns hown fun g hg => ?_
  have hl := hlt g hg
  rcases hv with e | e
  ·rw [e] at hg; exact .inl (hvS g hg)
  rw [e] at hg; cases hg; exact .inr ⟨by simp, hl⟩
 ·intro q hq
  rcases List.mem_append.1 hq with hq | hq
  ·obtain ⟨n1, n2⟩ := h.nums q hq
   have := (n1.chg h6 (fun b hb h => h (.inr (.inr hb)))).chg c3 (fun b hb e => h.dis b (hvS b e) hb)
   exact ⟨this.mono fun b hb => .inl hb, n2⟩
  simp at hq; subst hq
  have := h2.chg c3 (fun b hb e => by have := hS b (hvS b e); have := h4 b hb; omega)
  exact ⟨this.mono fun b hb => .inr hb, h3⟩
 ·intro b hb hq
  rcases hb with hb | hb
  ·rcases hq with hq | hq
   ·exact h.dis b hb hq
   have := hS b hb; have := h4 b hq; omega
  rcases hq with hq | hq
  ·have := hQ b hq; omega
  have := hQ1 b hq; omega
 ·have hz := h.chg.size
  intro b hb
  rcases hb with (hb | hb) | (hb | hb)
  ·exact h.new b (.inl hb)
  ·omega
  ·exact h.new b (.inr hb)
  have := h4 b hb; omega
 ·rw [qAfter_take ht] at h5
  exact (h5.grow c3 (fun b hb => .inl (.inr (.inl (hvS b hb))))).mono fun b hb => by
   rcases hb with hb | (hb | hb) | (hb | hb)
   ·exact .inl (.inl (.inl hb))
   ·exact .inl (.inl (.inr (.inl hb)))
   ·exact .inr hb
   ·exact .inl (.inl (.inr (.inr hb)))
   exact .inl (.inr hb)
 refine (h.chg.trans (h6.mono fun b _ hb hR => hb (.inl hR))).trans (c3.mono fun b hlt hb hR2 => ?_)
 have := h.new b (.inl (hvS b hb))
 have := hR b hR2
 omega
structure LookMid (R : Nat → Prop) (w wx : World) (p : Wp) (m : Wo) (v : Value) (rs : List RdV) (Q : Nat → Prop) : Prop where
 wo : WoN (fun b => R b ∨ Q b) wx p m
 rds : RdsIn Q wx v rs
 chg : G.Chg (fun b => ¬ R b) w wx
theorem LookMid.below {R Q : Nat → Prop} {w wx w' : World} {p : Wp} {m : Wo} {v : Value} {rs : List RdV} (h : LookMid R w wx p m v rs Q) (hb : Below wx.heap.size wx w') : LookMid R w w' p m v rs Q :=
 ⟨h.wo.below hb, h.rds.chg (C := fun _ => False) (G.Chg.of_below hb (Nat.le_refl _)) (fun _ _ h => h), h.chg.trans (G.Chg.of_below hb (Nat.le_refl _))⟩
theorem LookMid.drew {R Q : Nat → Prop} {w wx : World} {p : Wp} {m : Wo} {v : Value} {rs : List RdV} (h : LookMid R w wx p m v rs Q) : LookMid R w wx.drew p m v rs Q := h.below (Below.refl _ _).drew
theorem LookMid.drewN {R Q : Nat → Prop} {w wx : World} {p : Wp} {m : Wo} {v : Value} {rs : List RdV} (h : LookMid R w wx p m v rs Q) (n : Nat) : LookMid R w (wx.drewN n) p m v rs Q := h.below ⟨rfl, rfl, rfl, Nat.le_refl _, fun _ _ => rfl⟩
theorem woLookAll (R : Nat → Prop) (p : Wp) (m : Wo) (j : Nat) (w : World) (h : WoN R w p m) (hk : m.ok j) (hj : j ≤ 285000) :
  Calls Tryz.prog 129 #[.pointer (some ⟨p.g, 0, none⟩)] w (WoPost R w p (.tuple #[]) m.look) := by
 obtain ⟨i0, hi, hz0, hz1, hz2⟩ := info_parts rd_info
 have hfew := (planE_ok hk.lp.plan).few
 obtain ⟨At, capt, et, _⟩ := h.trigs
 have x5 : w.cell? ⟨p.g, 5, none⟩ = some (.slice At m.l.p.trigs.length capt) := et ▸ h.at.here (i := 5) rfl
 have HR := J (fun b (hb : R b) => h.lt hb)
 have HK := J hk
 have HS := J (LookRun.start h)
 have hn5 : (m.l.p.trigs.length : Int) ≤ 5 := by omega
 have HFew := J hfew
 clear h hk et hfew
 go_enter Tryz.func129, Tryz.ntmps129
 go_wp2_with fail
 go_loopw [2, 14] (fun v i wr => ∃ k : Nat, k ≤ m.l.p.trigs.length ∧ i = .int .i64 k ∧ Hid (∃ rs S Q, LookRun R w wr p m k v rs S Q)) (fun _ i _ => m.l.p.trigs.length - (intOf i).toNat)
 case atStart => exact ⟨0, Nat.zero_le _, rfl, J ⟨_, _, _, HS.u⟩⟩
 clear HS x5
 obtain ⟨k, hkn, rfl, HL⟩ := hrel
 obtain ⟨rs, S, Q, hL⟩ := HL.u
 have HLr := J hL
 obtain ⟨A2, cap2, rfl, _, _, _⟩ := hL.row.slice
 by_cases hlt : k < m.l.p.trigs.length
 ·obtain ⟨t, ht⟩ := G.get_some m.l.p.trigs hlt
  obtain ⟨x, hx⟩ := G.get_some m.fails (show k < m.fails.length by rw [HK.u.fails]; exact hlt)
  have HT := J ht; have HX := J hx
  have hk0 : (0 : Int) ≤ (k : Int) := by omega
  have hk1 : (k : Int) < (m.l.p.trigs.length : Int) := by omega
  clear hL HL ht hx
  go_wp2_with fail
  refine (woReading _ p _ k t x _ HLr.u.wo HT.u HX.u HK.u.tp HK.u.tn (by have := HK.u.fails; have := HFew.u; show m.fails.length ≤ 1000; omega) (by have := HFew.u; show m.l.p.trigs.length ≤ 1000; omega)).mono ?_
  rintro e w2 ⟨r, Q1, rfl, h1, h2, h3, h4, h5, h6⟩
  have HRow := J ((HLr.u.row.chg h6 (fun b hb h => h (.inr (.inl hb)))).alloc (.cells #[.bool r.failed, .slice r.A r.xs.length r.cap] 264))
  have HNx := J (fun (v' : Value) (w5 : World) => LookRun.next (v' := v') (w5 := w5) (o := .cells #[.bool r.failed, .slice r.A r.xs.length r.cap] 264) HR.u HLr.u HT.u HX.u h1 h2 h3 h4 h5 h6)
  have hm3 := J (show k + 1 ≤ maxLen by have := HFew.u; simp only [maxLen]; omega)
  have hm4 := J (show (k + 1) * 32 ≤ 140737488355328 by have := HFew.u; omega)
  clear h1 h2 h3 h4 h5 h6
  go_wp2_with (at_builtin; refine wpList_append_lies _ (by rfl) (.tmp 17) (.tmp 21) 262 (by rfl) 0 264 i0 (.agg #[.bool false, .slice none 0 0]) 2 32 Tryz.underlying262 hi hz0 hz1 hz2 rfl (by decide) (.slice A2 k cap2) _ _ rfl HRow.u.owns ⟨w2.heap.size, 0, none⟩ 1 1 [.bool r.failed, .slice r.A r.xs.length r.cap] rfl rfl (G.new_cells w2 _ _) (by simp [Value.oneCell']) (by decide) hm3.u hm4.u (Nat.zero_le _) _ rfl ?_)
  intro b2 cap3 w5 hown hg ho hlt2
  have HN := J (HNx.u _ _ hown hg (by
   rcases ho with e | e
   ·left; rw [e]; rfl
   right; rw [e]; simp [Value.ownBlock]) (fun g hgb => by simp [Value.ownBlock] at hgb; omega))
  clear hown hg ho hlt2 HRow HNx
  go_wp2_with fail
  go_roundw
  case rel =>
   obtain ⟨S', Q', hN⟩ := HN.u
   exact ⟨k + 1, by omega, by go_num, J ⟨_, S', Q', hN⟩⟩
  case measure => simp [intOf]; omega
 have hke : k = m.l.p.trigs.length := by omega
 subst hke
 have hMid : LookMid R w wr p { m with q := qAfter m.l.p.trigs m.q m.now } (.slice A2 m.l.p.trigs.length cap2) rs (fun b => S b ∨ Q b) := by
  refine ⟨?_, ?_, hL.chg⟩
  ·have := hL.wo; rw [List.take_length] at this; exact this
  have h1 := hL.row
  rw [← hL.len] at h1 ⊢
  exact rds_of h1 hL.nums
 have HRs := J (show rs.map RdV.rd = m.reads by
  have := hL.rds
  rw [List.take_of_length_le (by unfold Wo.reads; rw [readsOf_length HK.u.fails]; exact Nat.le_refl _)] at this; exact this)
 have HLn := J (show rs.length ≤ 9223372036854775807 by rw [hL.len]; have := HFew.u; omega)
 have HM := J hMid
 have x4 := hMid.wo.at.here (i := 4) rfl
 clear hL HL HLr hMid
 generalize Value.slice A2 m.l.p.trigs.length cap2 = vl at HM ⊢
 go_wp2_with fail
 refine (woBusy _ HM.u.wo).mono ?_
 rintro e w2 ⟨rfl, hb2⟩
 have HM2 := J (HM.u.below hb2)
 have c0 : (0 : Int) ≤ G.countF (-1) 1 m.b := G.countF_nn _ _ _
 have c1 : (0 : Int) ≤ G.countF (-1) 2 m.b := G.countF_nn _ _ _
 have c2 : G.countF (-1) 1 m.b ≤ 200 := by have := HK.u.bn; have := List.countP_le_length (p := G.hasF (-1) 1) (l := m.b); unfold G.countF; omega
 have c3 : G.countF (-1) 2 m.b ≤ 200 := by have := HK.u.bn; have := List.countP_le_length (p := G.hasF (-1) 2) (l := m.b); unfold G.countF; omega
 have HBz := J (show decide (0 < G.countF (-1) 1 m.b + G.countF (-1) 2 m.b) = m.busy from rfl)
 have s0 := HK.u.sec0
 have s1 := HK.u.sec1
 have n0 := HK.u.now0
 have n1 := HK.u.now1
 clear hb2 x4 HM
 generalize G.countF (-1) 1 m.b = C1 at c0 c2 HBz ⊢
 generalize G.countF (-1) 2 m.b = C2 at c1 c3 HBz ⊢
 go_upto_region 7 with fail
 go_cut [6] (fun s wx => s = .int .i64 (min (m.sec + m.now) 100000000000) ∧ Hid (LookMid R w wx p { m with q := qAfter m.l.p.trigs m.q m.now } vl rs (fun b => S b ∨ Q b)))
 case first =>
  have x7 := HM2.u.wo.at.here (i := 7) rfl
  have x8 := HM2.u.wo.at.here (i := 8) rfl
  have HD := J (fun n => HM2.u.drewN n)
  have HD1 := J HM2.u.drew
  by_cases hs : m.sec + m.now ≤ 100000000000
  ·have HE := J (show min (m.sec + m.now) 100000000000 = m.sec + m.now by omega)
   go_region
   all_goals (go_wp2_with fail; go_meet; exact ⟨by rw [HE.u], HD1⟩)
  have HE := J (show min (m.sec + m.now) 100000000000 = 100000000000 by omega)
  have hs2 : 100000000000 < m.sec + m.now := by omega
  go_region
  all_goals (go_wp2_with fail; go_meet; exact ⟨by rw [HE.u], HD1⟩)
 obtain ⟨rfl, hM3⟩ := hcut
 clear HM2
 have x0 := hM3.u.wo.at.here (i := 0) rfl
 have x3 := hM3.u.wo.at.here (i := 3) rfl
 have x8 := hM3.u.wo.at.here (i := 8) rfl
 have q1 : IntKind.i64.wrap (C1 + C2) = C1 + C2 := IntWalk.i64_in _ (by omega)
 have HSe := J (show ∃ s, min (m.sec + m.now) 100000000000 = s from ⟨_, rfl⟩)
 go_wp2_with fail
 go_region_held3 (fun w' => w'.cell? ⟨p.g, 0, none⟩ = some (.pointer (some ⟨p.gl, 0, none⟩)) ∧ w'.cell? ⟨p.g, 3, none⟩ = some (.pointer (some ⟨p.gf, 0, none⟩)) ∧ w'.cell? ⟨p.g, 8, none⟩ = some (.int .i64 m.now)) (first | exact ⟨z0, z3, z8⟩ | exact ⟨y0, y3, y8⟩ | exact ⟨x0, x3, x8⟩ | go_keep) (first | (go_at_call 164; refine (woLive _ hM3.u.drew.wo).mono ?_; rintro e w4 ⟨rfl, hb4⟩; have hM4 := hM3.u.drew.below hb4; have y0 := hM4.wo.at.here (i := 0) rfl; have y3 := hM4.wo.at.here (i := 3) rfl; have y8 := hM4.wo.at.here (i := 8) rfl) | (go_at_call 163; rw [HBz.u]; refine (woLook (fun b => S b ∨ Q b) vl m.now _ _ rs m.busy j _ hM4.wo hM4.rds (fun b hb => .inr hb) HK.u.lp (by omega) HLn.u).mono ?_; rintro e w5 ⟨rfl, hc5⟩; have z0 := hc5.1.at.here (i := 0) rfl; have z3 := hc5.1.at.here (i := 3) rfl; have z8 := hc5.1.at.here (i := 8) rfl))
 all_goals
  have HC5 := J (show WoC R w w5 p _ from ⟨hc5.1.mono fun _ hb => .inl hb, hM4.chg.trans (hc5.2.mono fun b _ hb hR => hb (.inl hR))⟩)
  have x9 := hc5.1.at.here (i := 9) rfl
  have f9 := hc5.1.at.soft 9
  have x3 := hc5.1.at.here (i := 3) rfl
  clear hc5 hM3 hM4 x0 x8 y0 y3 y8 z0 z3 z8
  have HTo := J (show lookN m.l m.now (min (m.sec + m.now) 100000000000) (G.liveN m.f) (rs.map RdV.rd) m.busy = m.told by rw [HRs.u]; rfl)
  have HT := J (HC5.u.1.head 9 (.int .i64 m.told) m.now m.told rfl)
  go_wp2_with fail
  rw [HTo.u]
  refine (woScale m.told _ HT.u.1 HK.u.crew (by have := HK.u.most0; show 0 ≤ m.most; omega) (by have := HK.u.fn; show m.f.length ≤ 90000000; omega) (by have := HK.u.fl1; show m.fl ≤ 1000000000000; omega)).mono ?_
  rintro e w6 ⟨rfl, hc6⟩
  have HF := J (show WoC R w w6 p m.look by
   have h1 := WoC.trans (HC5.u.2.trans HT.u.2) hc6
   rw [HRs.u] at h1
   exact h1)
  clear hc6 x9 f9 x3
  go_wp2_with fail
  go_end0
  exact ⟨rfl, HF.u⟩
theorem woTicks (R : Nat → Prop) (p : Wp) (m : Wo) (j : Nat) (n : Int) (w : World) (h : WoN R w p m) (hk : m.ok j) (hj : j ≤ 284000) (b0 : -9223372036854775808 ≤ n) (b1 : n ≤ 9223372036854775807) :
  Calls Tryz.prog 89 #[.pointer (some ⟨p.g, 0, none⟩), .int .i64 n] w (WoPost R w p (.int .i64 (tickE m n)) (if tickE m n = 0 then ticksN n.toNat m else m)) := by
 have x8 := h.at.here (i := 8) rfl
 have n0 := hk.now0
 have n1 := hk.now1
 have HC := J (WoC.refl h)
 have HK := J hk
 clear h hk
 by_cases hn : n < 1 ∨ 1000 < n ∨ 1099511627776 - m.now < n
 ·have e1 : tickE m n = 1 := by unfold tickE; rw [if_pos hn]
  rw [e1, if_neg (by decide)]
  clear e1
  by_cases h1 : n < 1
  ·clear hn
   go_enter Tryz.func89, Tryz.ntmps89
   go_wp2_with fail
   go_ret
   exact ⟨rfl, HC.u⟩
  by_cases h2 : 1000 < n
  ·clear hn
   go_enter Tryz.func89, Tryz.ntmps89
   go_wp2_with fail
   go_ret
   exact ⟨rfl, HC.u⟩
  have h3 : 1099511627776 - m.now < n := by omega
  clear hn
  go_enter Tryz.func89, Tryz.ntmps89
  go_wp2_with fail
  go_ret
  exact ⟨rfl, HC.u⟩
 have e1 : tickE m n = 0 := by unfold tickE; rw [if_neg hn]
 rw [e1, if_pos rfl]
 obtain ⟨N, rfl⟩ := Int.eq_ofNat_of_zero_le (show 0 ≤ n by omega)
 have h1 : ¬ (N : Int) < 1 := by omega
 have h2 : ¬ 1000 < (N : Int) := by omega
 have h3 : ¬ 1099511627776 - m.now < (N : Int) := by omega
 have HN1 := J (show 1 ≤ N ∧ N ≤ 1000 ∧ m.now + N ≤ 1099511627776 by omega)
 rw [Int.toNat_natCast]
 clear e1 hn
 go_enter Tryz.func89, Tryz.ntmps89
 go_wp2_with fail
 have HS := J (show ∃ m' : Wo, m' = ticksN 0 m ∧ WoC R w w p m' from ⟨m, rfl, HC.u⟩)
 go_loopw [21] (fun i wr => ∃ k : Nat, k ≤ N ∧ i = .int .i64 k ∧ Hid (∃ m' : Wo, m' = ticksN k m ∧ WoC R w wr p m')) (fun i _ => N - (intOf i).toNat)
 case atStart => exact ⟨0, Nat.zero_le _, rfl, HS⟩
 clear HS HC x8
 obtain ⟨k, hkN, rfl, HM⟩ := hrel
 obtain ⟨m', hm, hc⟩ := HM.u
 by_cases hlt : k < N
 ·have hk0 : (0 : Int) ≤ (k : Int) := by omega
  have hk1 : (k : Int) < (N : Int) := by omega
  have hok : m'.ok (j + k) := by rw [hm]; exact ok_ticks HK.u k (by have := HN1.u; omega)
  have hnow : m'.now = m.now + k := by rw [hm]; exact ticks_now k m
  have t0 := hok.now0
  have t1 : m'.now < 1099511627776 := by have := HN1.u; omega
  have x8 := hc.1.at.here (i := 8) rfl
  have f8 := hc.1.at.soft 8
  have HH := J (WoC.trans hc.2 (hc.1.head 8 (.int .i64 (m'.now + 1)) (m'.now + 1) m'.target rfl))
  have HOk := J hok; have HEq := J hm
  have HLt := J (ok_late hok (by omega))
  have HSn := J (ok_seen HLt.u)
  clear hok hnow hm hc HM
  go_upto_region 6 with fail
  clear x8 f8
  obtain ⟨W, hW⟩ : ∃ W, Hid (wr.setCell ⟨p.g, 8, none⟩ (.int .i64 (m'.now + 1)) = W) := ⟨_, J rfl⟩
  rw [hW.u] at HH ⊢
  clear hW
  have x4 := HH.u.1.at.here (i := 4) rfl
  have x8 := HH.u.1.at.here (i := 8) rfl
  go_region_held3 (fun w' => w'.cell? ⟨p.g, 4, none⟩ = some (.pointer (some ⟨p.gb, 0, none⟩)) ∧ w'.cell? ⟨p.g, 8, none⟩ = some (.int .i64 (m'.now + 1))) (first | exact ⟨y4, y8⟩ | exact ⟨x4, x8⟩ | go_keep) ((go_at_call 127; refine (woLate (m'.now + 1) _ HH.u.1.drew).mono ?_; rintro e w2 ⟨⟨v, rfl⟩, hc2⟩; have y4 := hc2.1.at.here (i := 4) rfl; have y8 := hc2.1.at.here (i := 8) rfl))
  all_goals
   have HC2 := J (show WoC R w w2 p m'.late from WoC.trans HH.u.2.drew hc2)
   have y0 := HC2.u.1.at.here (i := 0) rfl
   clear hc2 y4 x4 x8 HH
   go_upto_region 7 with fail
   go_region_held3 (fun w' => w'.cell? ⟨p.g, 0, none⟩ = some (.pointer (some ⟨p.gl, 0, none⟩)) ∧ w'.cell? ⟨p.g, 8, none⟩ = some (.int .i64 (m'.now + 1))) (first | exact ⟨z0, z8⟩ | exact ⟨y0, y8⟩ | go_keep) ((go_at_call 128; refine (woDue (m'.now + 1) (j + k) _ HC2.u.1.drew HLt.u.lp (by omega) (by omega)).mono ?_; rintro e w3 ⟨rfl, hc3⟩; have z0 := hc3.1.at.here (i := 0) rfl; have z8 := hc3.1.at.here (i := 8) rfl))
   all_goals
    have HC3 := J (show WoC R w w3 p m'.late from WoC.trans HC2.u.2.drew hc3)
    clear hc3 y0 y8 z0 z8 HC2
    cases hd : dueB m'.late.l (m'.now + 1)
    ·have HSe := J (show m'.late.seen = m'.late by unfold Wo.seen; rw [if_neg (show ¬ dueB m'.late.l m'.late.now = true by rw [show m'.late.now = m'.now + 1 from rfl, hd]; simp)])
     go_wp2_with fail
     refine (woOn R p m'.late (j + k) _ HC3.u.1 HLt.u).mono ?_
     rintro e w4 ⟨rfl, hc4⟩
     have HN := J (show ∃ m2 : Wo, m2 = ticksN (k + 1) m ∧ WoC R w w4 p m2 from ⟨m'.late.on, by rw [HEq.u]; show _ = (ticksN k m).tick; rw [← HEq.u]; unfold Wo.tick; rw [HSe.u], WoC.trans HC3.u.2 hc4⟩)
     clear hc4 hd
     go_wp2_with fail
     go_roundw
     case rel => exact ⟨k + 1, by omega, by go_num, HN⟩
     case measure => simp [intOf]; omega
    have HSe := J (show m'.late.seen = m'.late.look by unfold Wo.seen; rw [if_pos (show dueB m'.late.l m'.late.now = true by rw [show m'.late.now = m'.now + 1 from rfl, hd])])
    go_wp2_with fail
    refine (woLookAll R p m'.late (j + k) _ HC3.u.1 HLt.u (by have := HN1.u; omega)).mono ?_
    rintro e w4 ⟨rfl, hc4⟩
    have HC4 := J (show WoC R w w4 p m'.late.seen by rw [HSe.u]; exact WoC.trans HC3.u.2 hc4)
    clear hc4 hd
    go_wp2_with fail
    refine (woOn R p m'.late.seen (j + k + 1) _ HC4.u.1 HSn.u).mono ?_
    rintro e w5 ⟨rfl, hc5⟩
    have HN := J (show ∃ m2 : Wo, m2 = ticksN (k + 1) m ∧ WoC R w w5 p m2 from ⟨m'.late.seen.on, by rw [HEq.u]; show _ = (ticksN k m).tick; rw [← HEq.u]; rfl, WoC.trans HC4.u.2 hc5⟩)
    clear hc5
    go_wp2_with fail
    go_roundw
    case rel => exact ⟨k + 1, by omega, by go_num, HN⟩
    case measure => simp [intOf]; omega
 have hke : k = N := by omega
 subst hke
 have HF := J (show WoC R w wr p (ticksN k m) from hm ▸ hc)
 clear hm hc HM
 go_wp2_with fail
 go_ret
 exact ⟨rfl, HF.u⟩
end Go.Proofs.YtoidcbpcnikejaaGreatDoor
