/- Parts of this claim: BufG, BufH, StbG, QueD, FleG. -/
import Derived.Test.YtoidcbpcnikejaaGreatDoorDq11
import Derived.Test.YtoidcbpcnikejaaGreatDoorDqStbF
import Derived.Test.YtoidcbpcnikejaaGreatDoorDqQueC
import Derived.Test.YtoidcbpcnikejaaGreatDoorDq04
set_option linter.unusedVariables false
set_option linter.unusedSimpArgs false
set_option maxRecDepth 100000
set_option maxHeartbeats 12800000
namespace Go.Proofs.YtoidcbpcnikejaaGreatDoor
open Go.RowKit
theorem bufInt_info : (Tryz.prog.info? 3).map (fun i => (i.zero, i.size, i.bytes)) = some (some (.int .i64 0), 1, 8) := by kernel_rfl
def EndPost (T : TypeId) (S : Nat → Prop) (w : World) (g : Nat) (v : Value) (l : List G.Req) (p : G.Req → Bool) (fate : Int) (e : Ending) (w' : World) : Prop :=
 ∃ v', e = .returned v' ∧ G.OwnRow (fun b => w.heap.size ≤ b) w' 3 1 v' (G.idsF p l).length ((G.idsF p l).map (.int .i64)) ∧ BAt T S w' g v (l.map (G.setF p fate)) ∧ G.Chg S w w'
structure EndMid (T : TypeId) (S : Nat → Prop) (w wr : World) (g : Nat) (v : Value) (lb : List G.Req) (ids : List Int) (o : Value) : Prop where
 buf : BAt T S wr g v lb
 u : G.OwnRow (fun b => w.heap.size ≤ b) wr 3 1 o ids.length (ids.map (.int .i64))
 chg : G.Chg S w wr
 low : ∀ b, S b → b < w.heap.size
theorem EndMid.alloc {T : TypeId} {S : Nat → Prop} {w wr : World} {g : Nat} {v : Value} {lb : List G.Req} {ids : List Int} {o : Value} (h : EndMid T S w wr g v lb ids o) (ob : Obj) : EndMid T S w (wr.alloc ob) g v lb ids o :=
 ⟨h.buf.alloc ob, h.u.alloc ob, h.chg.alloc ob, h.low⟩
theorem EndMid.below {T : TypeId} {S : Nat → Prop} {w wr w1 : World} {g : Nat} {v : Value} {lb : List G.Req} {ids : List Int} {o : Value} (h : EndMid T S w wr g v lb ids o) (hb : Below wr.heap.size wr w1) : EndMid T S w w1 g v lb ids o :=
 ⟨h.buf.below hb, h.u.below hb (Nat.le_refl _), h.chg.step_below hb h.chg.size, h.low⟩
def EndRun (T : TypeId) (S : Nat → Prop) (w wr : World) (g : Nat) (v : Value) (l : List G.Req) (p : G.Req → Bool) (fate : Int) (k : Nat) (o : Value) : Prop :=
 EndMid T S w wr g v (G.upTo (G.setF p fate) l k) (G.idsF p (l.take k)) o
theorem EndRun.start {T : TypeId} {S : Nat → Prop} {w : World} {g : Nat} {v : Value} {l : List G.Req} {p : G.Req → Bool} {fate : Int} (h : BAt T S w g v l) : EndRun T S w w g v l p fate 0 (.slice none 0 0) :=
 ⟨by rw [G.upTo_zero]; exact h, G.OwnRow.nil _ _ _ _, G.Chg.refl _ _, h.lim⟩
theorem EndRun.done {T : TypeId} {S : Nat → Prop} {w wr : World} {g : Nat} {v : Value} {l : List G.Req} {p : G.Req → Bool} {fate : Int} {o : Value} (h : EndRun T S w wr g v l p fate l.length o) : EndPost T S w g v l p fate (.returned o) wr := by
 have hb := h.buf; have ho := h.u
 rw [G.upTo_all] at hb
 rw [List.take_length] at ho
 exact ⟨o, rfl, ho, hb, h.chg⟩
theorem idsF_no {p : G.Req → Bool} {l : List G.Req} {k : Nat} {r : G.Req} (hr : l[k]? = some r) (hp : p r = false) : G.idsF p (l.take (k + 1)) = G.idsF p (l.take k) := by
 unfold G.idsF; rw [G.filter_snoc hr, hp]; simp
theorem idsF_yes {p : G.Req → Bool} {l : List G.Req} {k : Nat} {r : G.Req} (hr : l[k]? = some r) (hp : p r = true) : G.idsF p (l.take (k + 1)) = G.idsF p (l.take k) ++ [r.id] := by
 unfold G.idsF; rw [G.filter_snoc hr, hp]; simp
theorem idsF_le (p : G.Req → Bool) (l : List G.Req) (k : Nat) : (G.idsF p (l.take k)).length ≤ l.length := by
 unfold G.idsF; rw [List.length_map]
 exact Nat.le_trans (List.length_filter_le _ _) (by rw [List.length_take]; omega)
theorem EndMid.skip {T : TypeId} {S : Nat → Prop} {w wr : World} {g : Nat} {v : Value} {l : List G.Req} {p : G.Req → Bool} {fate : Int} {k : Nat} {o : Value} {r : G.Req} (h : EndMid T S w wr g v (G.upTo (G.setF p fate) l k) (G.idsF p (l.take k)) o) (hr : l[k]? = some r) (hp : p r = false) : EndRun T S w wr g v l p fate (k + 1) o := by
 unfold EndRun
 rw [idsF_no hr hp, G.upTo_same hr (by unfold G.setF; rw [hp]; rfl)]
 exact h
theorem EndMid.put {T : TypeId} {S : Nat → Prop} {w wr : World} {g b cap n : Nat} {l : List G.Req} {p : G.Req → Bool} {fate : Int} {k : Nat} {ids : List Int} {o : Value} {r : G.Req} (h : EndMid T S w wr g (.slice (some ⟨b, 0, none⟩) n cap) (G.upTo (G.setF p fate) l k) ids o) (hT : T ≠ 181) (hr : l[k]? = some r) (hp : p r = true) :
  EndMid T S w (wr.setCell ⟨b, k * 5 + 3, none⟩ (.int .i64 fate)) g (.slice (some ⟨b, 0, none⟩) n cap) (G.upTo (G.setF p fate) l (k + 1)) ids o := by
 obtain ⟨p1, p2⟩ := h.buf.put hT (k := k) (j := 3) (r' := { r with fate := fate }) (u := .int .i64 fate) ((G.upTo_get _ _ _).trans hr) (by decide) rfl
 have e : (G.upTo (G.setF p fate) l k).set k { r with fate := fate } = G.upTo (G.setF p fate) l (k + 1) := by
  rw [← G.upTo_succ hr]; unfold G.setF; rw [hp]; rfl
 rw [e] at p1
 obtain ⟨b', cap', e', hS, _⟩ := h.buf.row.form (by rw [G.upTo_length]; have := G.get_lt hr; omega)
 cases e'
 exact ⟨p1, h.u.other (p := ⟨b, k * 5 + 3, none⟩) (by have := h.low b hS; simp; omega) _, h.chg.trans p2, h.low⟩
theorem EndMid.app {T : TypeId} {S : Nat → Prop} {w wr w3 : World} {g b2 cap2 : Nat} {v : Value} {l : List G.Req} {p : G.Req → Bool} {fate : Int} {k : Nat} {o : Value} {r : G.Req} {ob : Obj} (h : EndMid T S w wr g v (G.upTo (G.setF p fate) l (k + 1)) (G.idsF p (l.take k)) o) (hr : l[k]? = some r) (hp : p r = true)
  (h1 : w3.ownsRow 0 3 1 (.slice (some ⟨b2, 0, none⟩) ((G.idsF p (l.take k)).length + 1) cap2) ((G.idsF p (l.take k)).length + 1) ((G.idsF p (l.take k)).map (.int .i64) ++ [.int .i64 r.id])) (hg : (wr.alloc ob).grownBy w3 o.ownBlock) (ho : o.ownBlock = some b2 ∨ b2 = wr.heap.size + 1) (hlt : b2 < w3.heap.size) :
  EndRun T S w w3 g v l p fate (k + 1) (.slice (some ⟨b2, 0, none⟩) ((G.idsF p (l.take k)).length + 1) cap2) := by
 have z : (wr.alloc ob).heap.size = wr.heap.size + 1 := by simp
 have z1 := h.chg.size
 obtain ⟨r1, r2⟩ := (h.u.alloc ob).app h1 hg (ho.imp id (fun e => by rw [e, z])) hlt
 unfold EndRun
 refine ⟨(h.buf.alloc ob).chg r2 (fun b hb hn => by have := h.low b hb; omega), ?_, (h.chg.alloc ob).step r2 (fun b hb => .inr hb), h.low⟩
 rw [idsF_yes hr hp, List.length_append, List.map_append]
 refine r1.mono fun c _ hc => ?_
 rcases hc with hc | hc
 ·exact hc
 omega
/- end with the function (*buffer.Buffer).Late$1 -/
theorem bufLate_end (B : Nat) (p : G.Req → Bool) (fate : Int) (S : Nat → Prop) (g : Nat) (v : Value) (l : List G.Req) (w : World) (h : BAt 229 S w g v l)
  (hp : ∀ (r : G.Req) (W : World), G.Chg S w W → Calls Tryz.prog 160 #[.agg #[.int .i64 r.id, .int .i64 r.source, .int .i64 r.till, .int .i64 r.fate, .int .i64 r.pod], .pointer (some ⟨B, 0, none⟩)] W fun e W' => e = .returned (.bool (p r)) ∧ Below W.heap.size W W') :
  Calls Tryz.prog 159 #[.pointer (some ⟨g, 0, none⟩), .int .i64 fate, .func (.func 160) #[] #[.pointer (some ⟨B, 0, none⟩)]] w (EndPost 229 S w g v l p fate) := by
 obtain ⟨A, cap0, rfl, _, _, _⟩ := h.row.slice
 have hc := h.head.here (i := 0) rfl
 have hs := h.small
 have HH := J h; have HP := J hp
 clear h hp
 obtain ⟨i0, hi, hz0, hz1, hz2⟩ := info_parts bufInt_info
 go_enter Tryz.func159, Tryz.ntmps159
 go_wp2_with fail
 go_loopw [7, 15] (fun o i wr => ∃ k : Nat, k ≤ l.length ∧ i = .int .i64 k ∧ EndRun 229 S w wr g (.slice A l.length cap0) l p fate k o) (fun _ i _ => l.length - (intOf i).toNat)
 case atStart => exact ⟨0, by omega, rfl, EndRun.start HH.u⟩
 clear hc
 obtain ⟨k, hk, rfl, hr0⟩ := hrel
 obtain ⟨A7, c7, rfl, _, _, _⟩ := EndMid.u hr0 |>.slice
 have HR0 := J hr0
 clear hr0
 by_cases hlt : k < l.length
 ·obtain ⟨r, hr⟩ := G.get_some l hlt
  obtain ⟨b, cap', e, hS, _, _, hbl, c0, c1, c2, c3, c4, _⟩ := HR0.u.buf.req ((G.upTo_get _ _ _).trans hr)
  rw [G.upTo_length] at e
  cases e
  have i0' : (0 : Int) ≤ (k : Int) := by omega
  have i1 : (k : Int) < (l.length : Int) := by omega
  have HR1 := J (HR0.u.alloc (.cells #[.int .i64 r.id, .int .i64 r.source, .int .i64 r.till, .int .i64 r.fate, .int .i64 r.pod] 181))
  have HX := J (G.At.made wr 181 #[.int .i64 r.id, .int .i64 r.source, .int .i64 r.till, .int .i64 r.fate, .int .i64 r.pod])
  have HR := J hr
  clear hr
  go_wp2_with fail
  refine (HP.u r _ HR1.u.chg).mono ?_
  rintro e w1 ⟨rfl, hb1⟩
  have HR2 := J (HR1.u.below hb1)
  have hX := HX.u.below hb1 (by simp)
  have x0 := hX.here (i := 0) rfl
  have HX1 := J hX
  clear hX hb1 c0 c1 c2 c3 c4 hbl
  cases hpm : p r
  ·have HN := J (HR2.u.skip HR.u hpm)
   clear x0
   go_wp2_with fail
   go_roundw
   case rel => exact ⟨k + 1, by omega, by go_num, HN.u⟩
   case measure => simp [intOf]; omega
  have hc := HR2.u.buf.head.here (i := 0) rfl
  obtain ⟨b', cap', e, hS', _, _, hbl, c0, c1, c2, c3, c4, fz⟩ := HR2.u.buf.req ((G.upTo_get _ _ _).trans HR.u)
  rw [G.upTo_length] at e
  cases e
  have f3 := fz (k * 5 + 3)
  clear c0 c1 c2 c4 fz x0
  have HQ := J (HR2.u.put (fate := fate) (by decide) HR.u hpm)
  have HXp := J (HX1.u.other (p := ⟨b, k * 5 + 3, none⟩) (by
   have := HR0.u.buf.lim b hS'
   intro e; simp at e; omega) (.int .i64 fate))
  have HS' := J hS'
  go_upto_region 7 with fail
  generalize w1.setCell ⟨b, k * 5 + 3, none⟩ (.int .i64 fate) = w2 at HQ HXp ⊢
  have x0' := HXp.u.here (i := 0) rfl
  clear hc c3 f3 hbl
  have hle := idsF_le p l (k + 1)
  have hle0 := idsF_le p l k
  have hm3 := J (show (G.idsF p (l.take k)).length + 1 ≤ maxLen by simp only [maxLen]; omega)
  have hm4 := J (show ((G.idsF p (l.take k)).length + 1) * 8 ≤ 140737488355328 by omega)
  clear hle hle0
  go_wp2_with (at_builtin; refine wpList_append_lies _ (by rfl) (.tmp 31) (.tmp 34) 82 (by rfl) 0 3 i0 (.int .i64 0) 1 8 Tryz.underlying82 hi hz0 hz1 hz2 rfl (by decide) (.slice A7 (G.idsF p (l.take k)).length c7) _ _ rfl (HQ.u.u.alloc _).owns ⟨w2.heap.size, 0, none⟩ 1 1 [.int .i64 r.id] rfl rfl (buf_cells_in rfl) (by simp [Value.oneCell']) (by decide) hm3.u hm4.u (Nat.zero_le _) _ rfl ?_)
  intro b2 cap2 w3 hown hg ho hlt2
  have HN := J (HQ.u.app HR.u hpm hown hg ho hlt2)
  clear hown hg ho hlt2 x0'
  go_wp2_with fail
  go_roundw
  case rel => exact ⟨k + 1, by omega, by go_num, HN.u⟩
  case measure => simp [intOf]; omega
 have hke : k = l.length := by omega
 subst hke
 have HF := J HR0.u.done
 go_wp2_with fail
 go_ret
 exact HF.u
/- end with the function (*buffer.Buffer).Lost$1 -/
theorem bufLost_end (B : Nat) (p : G.Req → Bool) (fate : Int) (S : Nat → Prop) (g : Nat) (v : Value) (l : List G.Req) (w : World) (h : BAt 229 S w g v l)
  (hp : ∀ (r : G.Req) (W : World), G.Chg S w W → Calls Tryz.prog 172 #[.agg #[.int .i64 r.id, .int .i64 r.source, .int .i64 r.till, .int .i64 r.fate, .int .i64 r.pod], .pointer (some ⟨B, 0, none⟩)] W fun e W' => e = .returned (.bool (p r)) ∧ Below W.heap.size W W') :
  Calls Tryz.prog 159 #[.pointer (some ⟨g, 0, none⟩), .int .i64 fate, .func (.func 172) #[] #[.pointer (some ⟨B, 0, none⟩)]] w (EndPost 229 S w g v l p fate) := by
 obtain ⟨A, cap0, rfl, _, _, _⟩ := h.row.slice
 have hc := h.head.here (i := 0) rfl
 have hs := h.small
 have HH := J h; have HP := J hp
 clear h hp
 obtain ⟨i0, hi, hz0, hz1, hz2⟩ := info_parts bufInt_info
 go_enter Tryz.func159, Tryz.ntmps159
 go_wp2_with fail
 go_loopw [7, 15] (fun o i wr => ∃ k : Nat, k ≤ l.length ∧ i = .int .i64 k ∧ EndRun 229 S w wr g (.slice A l.length cap0) l p fate k o) (fun _ i _ => l.length - (intOf i).toNat)
 case atStart => exact ⟨0, by omega, rfl, EndRun.start HH.u⟩
 clear hc
 obtain ⟨k, hk, rfl, hr0⟩ := hrel
 obtain ⟨A7, c7, rfl, _, _, _⟩ := EndMid.u hr0 |>.slice
 have HR0 := J hr0
 clear hr0
 by_cases hlt : k < l.length
 ·obtain ⟨r, hr⟩ := G.get_some l hlt
  obtain ⟨b, cap', e, hS, _, _, hbl, c0, c1, c2, c3, c4, _⟩ := HR0.u.buf.req ((G.upTo_get _ _ _).trans hr)
  rw [G.upTo_length] at e
  cases e
  have i0' : (0 : Int) ≤ (k : Int) := by omega
  have i1 : (k : Int) < (l.length : Int) := by omega
  have HR1 := J (HR0.u.alloc (.cells #[.int .i64 r.id, .int .i64 r.source, .int .i64 r.till, .int .i64 r.fate, .int .i64 r.pod] 181))
  have HX := J (G.At.made wr 181 #[.int .i64 r.id, .int .i64 r.source, .int .i64 r.till, .int .i64 r.fate, .int .i64 r.pod])
  have HR := J hr
  clear hr
  go_wp2_with fail
  refine (HP.u r _ HR1.u.chg).mono ?_
  rintro e w1 ⟨rfl, hb1⟩
  have HR2 := J (HR1.u.below hb1)
  have hX := HX.u.below hb1 (by simp)
  have x0 := hX.here (i := 0) rfl
  have HX1 := J hX
  clear hX hb1 c0 c1 c2 c3 c4 hbl
  cases hpm : p r
  ·have HN := J (HR2.u.skip HR.u hpm)
   clear x0
   go_wp2_with fail
   go_roundw
   case rel => exact ⟨k + 1, by omega, by go_num, HN.u⟩
   case measure => simp [intOf]; omega
  have hc := HR2.u.buf.head.here (i := 0) rfl
  obtain ⟨b', cap', e, hS', _, _, hbl, c0, c1, c2, c3, c4, fz⟩ := HR2.u.buf.req ((G.upTo_get _ _ _).trans HR.u)
  rw [G.upTo_length] at e
  cases e
  have f3 := fz (k * 5 + 3)
  clear c0 c1 c2 c4 fz x0
  have HQ := J (HR2.u.put (fate := fate) (by decide) HR.u hpm)
  have HXp := J (HX1.u.other (p := ⟨b, k * 5 + 3, none⟩) (by
   have := HR0.u.buf.lim b hS'
   intro e; simp at e; omega) (.int .i64 fate))
  have HS' := J hS'
  go_upto_region 7 with fail
  generalize w1.setCell ⟨b, k * 5 + 3, none⟩ (.int .i64 fate) = w2 at HQ HXp ⊢
  have x0' := HXp.u.here (i := 0) rfl
  clear hc c3 f3 hbl
  have hle := idsF_le p l (k + 1)
  have hle0 := idsF_le p l k
  have hm3 := J (show (G.idsF p (l.take k)).length + 1 ≤ maxLen by simp only [maxLen]; omega)
  have hm4 := J (show ((G.idsF p (l.take k)).length + 1) * 8 ≤ 140737488355328 by omega)
  clear hle hle0
  go_wp2_with (at_builtin; refine wpList_append_lies _ (by rfl) (.tmp 31) (.tmp 34) 82 (by rfl) 0 3 i0 (.int .i64 0) 1 8 Tryz.underlying82 hi hz0 hz1 hz2 rfl (by decide) (.slice A7 (G.idsF p (l.take k)).length c7) _ _ rfl (HQ.u.u.alloc _).owns ⟨w2.heap.size, 0, none⟩ 1 1 [.int .i64 r.id] rfl rfl (buf_cells_in rfl) (by simp [Value.oneCell']) (by decide) hm3.u hm4.u (Nat.zero_le _) _ rfl ?_)
  intro b2 cap2 w3 hown hg ho hlt2
  have HN := J (HQ.u.app HR.u hpm hown hg ho hlt2)
  clear hown hg ho hlt2 x0'
  go_wp2_with fail
  go_roundw
  case rel => exact ⟨k + 1, by omega, by go_num, HN.u⟩
  case measure => simp [intOf]; omega
 have hke : k = l.length := by omega
 subst hke
 have HF := J HR0.u.done
 go_wp2_with fail
 go_ret
 exact HF.u
open Go.RowKit
theorem bufLate1 (B : Nat) (now : Int) (r : G.Req) (W : World) (h : G.At W B 3 #[.int .i64 now]) :
  Calls Tryz.prog 160 #[.agg #[.int .i64 r.id, .int .i64 r.source, .int .i64 r.till, .int .i64 r.fate, .int .i64 r.pod], .pointer (some ⟨B, 0, none⟩)] W fun e W' => e = .returned (.bool (G.isLate now r)) ∧ Below W.heap.size W W' := by
 have hB := J ((Below.refl W.heap.size W).alloc (Nat.le_refl _) (.cells #[.int .i64 r.id, .int .i64 r.source, .int .i64 r.till, .int .i64 r.fate, .int .i64 r.pod] 181))
 have hc : (W.alloc (.cells #[.int .i64 r.id, .int .i64 r.source, .int .i64 r.till, .int .i64 r.fate, .int .i64 r.pod] 181)).cell? ⟨B, 0, none⟩ = some (.int .i64 now) := (h.alloc _).here (i := 0) rfl
 have hc0 := h.here (i := 0) rfl
 clear h
 cases hf : (r.fate == 1)
 ·have HT := J (show G.isLate now r = false by unfold G.isLate; rw [hf]; rfl)
  go_enter Tryz.func160, Tryz.ntmps160
  go_wp2_with fail
  go_ret
  exact ⟨by rw [HT.u] <;> rfl, hB.u⟩
 by_cases ht : r.till ≤ now
 ·have HT := J (show G.isLate now r = true by unfold G.isLate; rw [hf]; simp [ht])
  go_enter Tryz.func160, Tryz.ntmps160
  go_wp2_with fail
  go_ret
  exact ⟨by rw [HT.u] <;> rfl, hB.u⟩
 have HT := J (show G.isLate now r = decide (r.till ≤ now) by unfold G.isLate; rw [hf]; rfl)
 clear ht
 go_enter Tryz.func160, Tryz.ntmps160
 go_wp2_with fail
 go_ret
 exact ⟨by rw [HT.u] <;> rfl, hB.u⟩
theorem bufLost1 (B : Nat) (pod : Int) (r : G.Req) (W : World) (h : G.At W B 3 #[.int .i64 pod]) :
  Calls Tryz.prog 172 #[.agg #[.int .i64 r.id, .int .i64 r.source, .int .i64 r.till, .int .i64 r.fate, .int .i64 r.pod], .pointer (some ⟨B, 0, none⟩)] W fun e W' => e = .returned (.bool (G.isLost pod r)) ∧ Below W.heap.size W W' := by
 have hB := J ((Below.refl W.heap.size W).alloc (Nat.le_refl _) (.cells #[.int .i64 r.id, .int .i64 r.source, .int .i64 r.till, .int .i64 r.fate, .int .i64 r.pod] 181))
 have hc : (W.alloc (.cells #[.int .i64 r.id, .int .i64 r.source, .int .i64 r.till, .int .i64 r.fate, .int .i64 r.pod] 181)).cell? ⟨B, 0, none⟩ = some (.int .i64 pod) := (h.alloc _).here (i := 0) rfl
 have hc0 := h.here (i := 0) rfl
 clear h
 cases hf : (r.fate == 2)
 ·have HT := J (show G.isLost pod r = false by unfold G.isLost; rw [hf]; rfl)
  go_enter Tryz.func172, Tryz.ntmps172
  go_wp2_with fail
  go_ret
  exact ⟨by rw [HT.u] <;> rfl, hB.u⟩
 cases ht : (r.pod == pod)
 ·have HT := J (show G.isLost pod r = false by unfold G.isLost; rw [hf, ht]; rfl)
  go_enter Tryz.func172, Tryz.ntmps172
  go_wp2_with fail
  go_ret
  exact ⟨by rw [HT.u] <;> rfl, hB.u⟩
 have HT := J (show G.isLost pod r = true by unfold G.isLost; rw [hf, ht]; rfl)
 go_enter Tryz.func172, Tryz.ntmps172
 go_wp2_with fail
 go_ret
 exact ⟨by rw [HT.u] <;> rfl, hB.u⟩
def LatePost (T : TypeId) (S : Nat → Prop) (w : World) (g : Nat) (v : Value) (l : List G.Req) (now : Int) (e : Ending) (w' : World) : Prop :=
 ∃ v', e = .returned (.tuple #[v', .int .i64 (G.lateErr now)]) ∧ G.OwnRow (fun b => w.heap.size ≤ b) w' 3 1 v' (G.lateIds l now).length ((G.lateIds l now).map (.int .i64)) ∧ BAt T S w' g v (G.lateLst l now) ∧ G.Chg S w w'
theorem late_no {T : TypeId} {S : Nat → Prop} {w w' : World} {g : Nat} {v : Value} {l : List G.Req} {now : Int} (h : BAt T S w' g v l) (hb : Below w.heap.size w w') (hn : G.timeOk now = false) : LatePost T S w g v l now (.returned (.tuple #[.slice none 0 0, .int .i64 1])) w' := by
 refine ⟨.slice none 0 0, by unfold G.lateErr; rw [hn]; rfl, ?_, ?_, G.Chg.of_below hb (Nat.le_refl _)⟩
 ·unfold G.lateIds; rw [hn]; exact G.OwnRow.nil _ _ _ _
 unfold G.lateLst; rw [hn]; exact h
theorem late_yes {T : TypeId} {S : Nat → Prop} {w w' : World} {ob : Obj} {g : Nat} {v v' : Value} {l : List G.Req} {now : Int} (hn : G.timeOk now = true) (ho : G.OwnRow (fun b => (w.alloc ob).heap.size ≤ b) w' 3 1 v' (G.idsF (G.isLate now) l).length ((G.idsF (G.isLate now) l).map (.int .i64))) (hb : BAt T S w' g v (l.map (G.setF (G.isLate now) 4))) (hc : G.Chg S (w.alloc ob) w') : LatePost T S w g v l now (.returned (.tuple #[v', .int .i64 0])) w' := by
 refine ⟨v', by unfold G.lateErr; rw [hn]; rfl, ?_, ?_, ((G.Chg.refl S w).alloc ob).trans hc⟩
 ·unfold G.lateIds; rw [hn]; exact ho.mono fun b _ hb => by simp at hb; omega
 unfold G.lateLst; rw [hn]; exact hb
theorem bufLate (S : Nat → Prop) (g : Nat) (v : Value) (l : List G.Req) (now : Int) (w : World) (h : BAt 229 S w g v l) :
  Calls Tryz.prog 127 #[.pointer (some ⟨g, 0, none⟩), .int .i64 now] w (LatePost 229 S w g v l now) := by
 have HH := J (h.alloc (.cells #[.int .i64 now] 3))
 have HL := J h.lim
 have HB := J ((Below.refl w.heap.size w).alloc (Nat.le_refl _) (.cells #[.int .i64 now] 3))
 have HX := J (G.At.made w 3 #[.int .i64 now])
 clear h
 by_cases h1 : now < 0
 ·have HF := J (late_no HH.u HB.u (show G.timeOk now = false by unfold G.timeOk; simp; omega))
  go_enter Tryz.func127, Tryz.ntmps127
  go_wp2_with fail
  go_ret2
  exact HF.u
 have h1' : 0 ≤ now := by omega
 clear h1
 by_cases h2 : 1099511627776 < now
 ·have HF := J (late_no HH.u HB.u (show G.timeOk now = false by unfold G.timeOk; simp; omega))
  go_enter Tryz.func127, Tryz.ntmps127
  go_wp2_with fail
  go_ret2
  exact HF.u
 have h2' : now ≤ 1099511627776 := by omega
 clear h2
 have HT := J (show G.timeOk now = true by unfold G.timeOk; simp; omega)
 go_enter Tryz.func127, Tryz.ntmps127
 go_wp2_with fail
 refine (bufLate_end w.heap.size (G.isLate now) 4 S g v l _ HH.u (fun r W hW => bufLate1 _ now r W (HX.u.chg hW (fun hs => Nat.lt_irrefl _ (HL.u _ hs))))).mono ?_
 rintro e w1 ⟨v', rfl, ho, hb, hc⟩
 have HF := J (late_yes HT.u ho hb hc)
 clear ho hb hc
 go_wp2_with fail
 go_ret2
 exact HF.u
def LostPost (T : TypeId) (S : Nat → Prop) (w : World) (g : Nat) (v : Value) (l : List G.Req) (pod : Int) (e : Ending) (w' : World) : Prop :=
 ∃ v', e = .returned v' ∧ G.OwnRow (fun b => w.heap.size ≤ b) w' 3 1 v' (G.idsF (G.isLost pod) l).length ((G.idsF (G.isLost pod) l).map (.int .i64)) ∧ BAt T S w' g v (G.lostLst l pod) ∧ G.Chg S w w'
theorem bufLost (S : Nat → Prop) (g : Nat) (v : Value) (l : List G.Req) (pod : Int) (w : World) (h : BAt 229 S w g v l) :
  Calls Tryz.prog 139 #[.pointer (some ⟨g, 0, none⟩), .int .i64 pod] w (LostPost 229 S w g v l pod) := by
 have HH := J (h.alloc (.cells #[.int .i64 pod] 3))
 have HL := J h.lim
 have HX := J (G.At.made w 3 #[.int .i64 pod])
 clear h
 go_enter Tryz.func139, Tryz.ntmps139
 go_wp2_with fail
 refine (bufLost_end w.heap.size (G.isLost pod) 5 S g v l _ HH.u (fun r W hW => bufLost1 _ pod r W (HX.u.chg hW (fun hs => Nat.lt_irrefl _ (HL.u _ hs))))).mono ?_
 rintro e w1 ⟨v', rfl, ho, hb, hc⟩
 have HF := J (show LostPost 229 S w g v l pod (.returned v') w1 from ⟨v', rfl, ho.mono fun b _ hb => by simp at hb; omega, hb, ((G.Chg.refl S w).alloc _).trans hc⟩)
 clear ho hb hc
 go_wp2_with fail
 go_ret
 exact HF.u
open Go.RowKit
theorem settle_ok {s : G.Stb} {j : Nat} {now have0 want : Int} (h : s.ok j) : (G.settleS s now have0 want).ok (j + 1) := by
 unfold G.settleS
 cases hk : G.settleOk s now have0 want
 ·simp only [Bool.false_eq_true, if_false]
  exact ⟨h.up, h.down, h.last0, h.last1, h.wan, h.mov, h.wsort, h.msort, Nat.le_succ_of_le h.wlen, Nat.le_succ_of_le h.mlen⟩
 simp only [if_true]
 have h1 := Stb.ok_seen h hk
 split
 ·exact h1
 have hb := hk
 unfold G.settleOk at hb
 simp only [Bool.and_eq_true, decide_eq_true_eq] at hb
 obtain ⟨⟨⟨a1, a2⟩, a3, a4⟩, a5, a6⟩ := hb
 have := settleN0_bd (s.seen now want) now have0 want (fun m hm => (h1.wan m hm).1) a3 a4 a5 a6
 exact Stb.ok_went (s := s.seen now want) h1 (by omega) (by omega) (by show s.moved.length + 1 ≤ _; have := h.mlen; omega)
def G.newStb (u d : G.Pace) : G.Stb := ⟨u.fix, d.fix, 0, [], []⟩
theorem newStb_ok (u d : G.Pace) : (G.newStb u d).ok 0 := ⟨u.fix_ok, d.fix_ok, by show (0 : Int) ≤ 0; omega, by show (0 : Int) ≤ _; omega, by simp [G.newStb], by simp [G.newStb], List.Pairwise.nil, List.Pairwise.nil, Nat.le_refl _, Nat.le_refl _⟩
structure Solo (w0 w : World) (S : Nat → Prop) : Prop where
 own : ∀ b, S b → w0.heap.size ≤ b
 below : Below w0.heap.size w0 w
theorem Solo.next {w0 w w1 : World} {S : Nat → Prop} (h : Solo w0 w S) (hc : G.Chg S w w1) : Solo w0 w1 (G.Plus S w w1) :=
 ⟨fun b hb => by
   have := h.below.size
   rcases hb with hb | hb
   ·exact h.own b hb
   omega, h.below.trans (hc.below h.below.size (fun k hk hS => by have := h.own k hS; omega))⟩
theorem Solo.alloc {w0 w : World} {S : Nat → Prop} (h : Solo w0 w S) (o : Obj) : Solo w0 (w.alloc o) S := ⟨h.own, h.below.alloc h.below.size o⟩
def NewStbPost (T TM : TypeId) (w : World) (s : G.Stb) (e : Ending) (w' : World) : Prop := ∃ g, e = .returned (.pointer (some ⟨g, 0, none⟩)) ∧ StbAt T TM (G.Plus (fun _ => False) w w') w' g s (.slice none 0 0) (.slice none 0 0) ∧ Below w.heap.size w w'
theorem stb_made {T TM : TypeId} {w w1 : World} {s : G.Stb} (hb : Below w.heap.size w w1) (h1 : s.wanted = []) (h2 : s.moved = []) :
  NewStbPost T TM w s (.returned (.pointer (some ⟨w1.heap.size, 0, none⟩))) (w1.alloc (.cells #[.int .i64 s.up.win, .int .i64 s.up.pods, .int .i64 s.up.pct, .int .i64 s.up.per, .int .i64 s.down.win, .int .i64 s.down.pods, .int .i64 s.down.pct, .int .i64 s.down.per, .int .i64 s.last, .slice none 0 0, .slice none 0 0] T)) :=
 ⟨_, rfl, ⟨G.At.made _ _ _, by rw [h1]; exact G.OwnRow.nil _ _ _ _, by rw [h2]; exact G.OwnRow.nil _ _ _ _, fun b hb => by simp [Value.ownBlock] at hb, .inr ⟨hb.size, by simp⟩, fun b hb => by rcases hb with hb | hb; exact hb.elim; exact hb.2⟩, hb.alloc hb.size _⟩
theorem _root_.Go.RowKit.Below.cell_frozen {W w1 : World} (hb : Below W.heap.size W w1) : (∀ b o, b < W.heap.size → w1.cell? ⟨b, o, none⟩ = W.cell? ⟨b, o, none⟩) ∧ (∀ b o, b < W.heap.size → w1.frozen? ⟨b, o, none⟩ = W.frozen? ⟨b, o, none⟩) :=
 ⟨fun b o h => hb.cell (p := ⟨b, o, none⟩) h, fun b o h => hb.frozen (p := ⟨b, o, none⟩) h⟩
theorem right4 (a b c d : Int) (w0 W : World) (h : Below w0.heap.size w0 W) : Calls Tryz.prog 156 #[.agg #[.int .i64 a, .int .i64 b, .int .i64 c, .int .i64 d]] W fun e w' => e = .returned (.agg #[.int .i64 (G.clipT a), .int .i64 (G.clipT b), .int .i64 (G.clipT c), .int .i64 (G.clipT d)]) ∧ Below w0.heap.size w0 w' ∧ (∀ b o, b < W.heap.size → w'.cell? ⟨b, o, none⟩ = W.cell? ⟨b, o, none⟩) :=
 (stbRight ⟨a, b, c, d⟩ W).mono fun _ _ ⟨he, hb⟩ => ⟨he, h.trans (hb.mono h.size), hb.cell_frozen.1⟩
theorem stbNew (u d : G.Pace) (w : World) : Calls Tryz.prog 123 #[.agg #[.int .i64 u.win, .int .i64 u.pods, .int .i64 u.pct, .int .i64 u.per], .agg #[.int .i64 d.win, .int .i64 d.pods, .int .i64 d.pct, .int .i64 d.per]] w (NewStbPost 257 290 w (G.newStb u d)) := by
 have hA := (G.At.made w 98 #[.int .i64 u.win, .int .i64 u.pods, .int .i64 u.pct, .int .i64 u.per]).alloc (.cells #[.int .i64 d.win, .int .i64 d.pods, .int .i64 d.pct, .int .i64 d.per] 98)
 have hB := G.At.made (w.alloc (.cells #[.int .i64 u.win, .int .i64 u.pods, .int .i64 u.pct, .int .i64 u.per] 98)) 98 #[.int .i64 d.win, .int .i64 d.pods, .int .i64 d.pct, .int .i64 d.per]
 simp only [World.size_alloc] at hB
 have hb0 : Below w.heap.size w ((w.alloc (.cells #[.int .i64 u.win, .int .i64 u.pods, .int .i64 u.pct, .int .i64 u.per] 98)).alloc (.cells #[.int .i64 d.win, .int .i64 d.pods, .int .i64 d.pct, .int .i64 d.per] 98)) := ((Below.refl _ _).alloc (Nat.le_refl _) _).alloc (by simp) _
 have HA := J hA.drew; have HB := J hB.drew; have H0 := J hb0.drew
 clear hA hB hb0
 go_enter Tryz.func123, Tryz.ntmps123
 go_wp2_with fail
 have hb1 := H0.u
 go_region_with (go_at_call 156; refine (right4 _ _ _ _ w _ (by assumption)).mono ?_; rintro e w1 ⟨rfl, hb1, hc1⟩)
 all_goals
  have HF := J (stb_made (T := 257) (TM := 290) (s := G.newStb u d) hb1 rfl rfl)
  clear hb1
  go_wp2_with fail
  go_ret
  exact HF.u
open Go.RowKit
theorem que_info : (Tryz.prog.info? 237).map (fun i => (i.zero, i.size, i.bytes)) = some (some (.agg #[.int .i64 0, .int .i64 0, .bool false]), 3, 24) := by kernel_rfl
def que_zero : List Value := [.int .i64 0, .int .i64 0, .bool false]
theorem que_clear (w : World) (ty : TypeId) (b o c : Nat) (hc : ∀ j, j < 3 → (w.cell? ⟨b, o + j, none⟩).isSome = true) (hf : ∀ j, j < 3 → w.frozen? ⟨b, o + j, none⟩ = false) :
  (Builtin.clear_ #[223] ty #[.slice (some ⟨b, o, none⟩) 1 c]).run Tryz.prog w = .ok (.tuple #[]) (w.setCells b o que_zero) := by
 have hv : ∀ w, (zeroValue 237).run Tryz.prog w = .ok (.agg #[.int .i64 0, .int .i64 0, .bool false]) w := fun w => by kernel_rfl
 have hst := run_storeCells_cells (P := Tryz.prog) b o que_zero 0 w (by simpa [que_zero] using hc) (by simpa [que_zero] using hf) (by simp [que_zero, Value.oneCell'])
 simp only [Nat.add_zero] at hst
 have hzc : (Builtin.zeroCells (Value.agg #[.int .i64 0, .int .i64 0, .bool false]).cells 1).toList = que_zero := by kernel_rfl
 simp [Builtin.clear_, run_underlying Tryz.underlying223, hv, hzc, hst]
theorem que_delete (S : Nat → Prop) (w : World) (b cap n i : Nat) (xs : List Value) (h : G.OwnRow S w 237 3 (.slice (some ⟨b, 0, none⟩) n cap) n xs) (hi : i < n) (h1 : ∀ u ∈ xs, u.oneCell' = true) :
  Calls Tryz.prog 136 #[.slice (some ⟨b, 0, none⟩) n cap, .int .i64 i, .int .i64 ((i : Int) + 1)] w fun e w' => e = .returned (.slice (some ⟨b, 0, none⟩) (n - 1) cap) ∧
   G.OwnRow S w' 237 3 (.slice (some ⟨b, 0, none⟩) (n - 1) cap) (n - 1) (xs.take (i * 3) ++ xs.drop ((i + 1) * 3)) ∧ G.Chg (fun x => x = b) w w' := by
 obtain ⟨b', cap', e, hS, hcap, hmax, hrow⟩ := h.form (by omega)
 cases e
 have hlen := h.1
 obtain ⟨news, hnews⟩ : ∃ news, news = xs.drop ((i + 1) * 3) := ⟨_, rfl⟩
 have hnl : news.length = (n - (i + 1)) * 3 := by rw [hnews, List.length_drop, hlen]; omega
 obtain ⟨A, hA, hsrc⟩ : ∃ A : Addr, (if cap = i + 1 then some (⟨b, 0, none⟩ : Addr) else some ⟨b, (i + 1) * 3, none⟩) = some A ∧ Hid (∀ t u, news[t]? = some u → w.drew.cell? (A.add t) = some u) := by
  by_cases hc : cap = i + 1
  ·refine ⟨⟨b, 0, none⟩, by simp [hc], fun t u hu => ?_⟩
   have h0 : news.length = 0 := by rw [hnl]; omega
   rw [List.length_eq_zero_iff.1 h0] at hu
   simp at hu
  refine ⟨⟨b, (i + 1) * 3, none⟩, by simp [hc], fun t u hu => ?_⟩
  rw [hnews, List.getElem?_drop] at hu
  rw [Addr.add_lit]
  exact hrow.cell hu
 have s2 : Hid (∀ u ∈ news, u.oneCell' = true) := fun u hu => h1 u (List.mem_of_mem_drop (by rw [hnews] at hu; exact hu))
 have s3 : Hid (∀ t, t < news.length → (w.drew.cell? ⟨b, 0 + i * 3 + t, none⟩).isSome = true ∧ w.drew.frozen? ⟨b, 0 + i * 3 + t, none⟩ = false) := by
  intro t ht
  rw [hnl] at ht
  have hlt : 0 + i * 3 + t < xs.length := by rw [hlen]; omega
  exact ⟨by show (w.cell? _).isSome = true; rw [hrow.cell (List.getElem?_eq_getElem hlt)]; rfl, hrow.soft _⟩
 obtain ⟨W1, hW1⟩ : ∃ W1, W1 = w.drew.setCells b (0 + i * 3) news := ⟨_, rfl⟩
 have hR1 : G.RowIn W1 b 237 (cap * 3) (xs.take (0 + i * 3) ++ news ++ xs.drop (0 + i * 3 + news.length)) := by
  rw [hW1]; exact G.RowIn.puts news _ hrow.drew (by rw [hlen, hnl]; omega)
 have hch1 : G.Chg (fun x => x = b) w W1 := by rw [hW1]; exact G.Chg.puts (S := fun x => x = b) (.inl rfl) _ _ (G.Chg.refl _ w).drew
 have hl1 : (xs.take (0 + i * 3) ++ news ++ xs.drop (0 + i * 3 + news.length)).length = n * 3 := by simp [hnl, hlen]; omega
 have hcl : ∀ ty c, (Builtin.clear_ #[223] ty #[.slice (some ⟨b, (i + (n - (i + 1))) * 3, none⟩) (n - (i + (n - (i + 1)))) c]).run Tryz.prog W1 = .ok (.tuple #[]) (W1.setCells b ((n - 1) * 3) que_zero) := by
  rw [show i + (n - (i + 1)) = n - 1 by omega, show n - (n - 1) = 1 by omega]
  exact fun ty c => que_clear W1 ty b _ _ (fun t ht => by
   rw [hR1.cell (List.getElem?_eq_getElem (show (n - 1) * 3 + t < _ by rw [hl1]; omega))]; rfl) (fun t ht => hR1.soft _)
 have hfin : G.OwnRow S (W1.setCells b ((n - 1) * 3) que_zero) 237 3 (.slice (some ⟨b, 0, none⟩) (n - 1) cap) (n - 1) (xs.take (i * 3) ++ xs.drop ((i + 1) * 3)) := by
  have hR2 := (G.RowIn.puts que_zero ((n - 1) * 3) hR1 (by rw [hl1]; simp [que_zero]; omega)).fewer ((n - 1) * 3)
  have e : (List.take ((n - 1) * 3) (xs.take (0 + i * 3) ++ news ++ xs.drop (0 + i * 3 + news.length)) ++ que_zero ++ List.drop ((n - 1) * 3 + que_zero.length) (xs.take (0 + i * 3) ++ news ++ xs.drop (0 + i * 3 + news.length))).take ((n - 1) * 3) = xs.take (i * 3) ++ xs.drop ((i + 1) * 3) := by
   have e1 : (xs.take (0 + i * 3) ++ news).length = (n - 1) * 3 := by simp [hnl, hlen]; omega
   rw [List.append_assoc, List.take_append_of_le_length (by rw [List.length_take, hl1]; omega), List.take_take, Nat.min_self, List.take_append_of_le_length (by omega), List.take_of_length_le (by omega), Nat.zero_add, hnews]
  rw [e] at hR2
  refine ⟨by simp [hlen]; omega, .inr ⟨b, cap, rfl, hS, by omega, hmax, hR2⟩⟩
 have hch2 : G.Chg (fun x => x = b) w (W1.setCells b ((n - 1) * 3) que_zero) := G.Chg.puts (S := fun x => x = b) (.inl rfl) _ _ hch1
 have HF := J hfin; have HC := J hch2; have HW := J hW1
 have q1 : i ≤ cap := by omega
 have q2 : i + 1 ≤ cap := by omega
 have q3 : (i : Int) + 1 ≤ (n : Int) := by omega
 have q6 : (0 : Int) ≤ (i : Int) + 1 := by omega
 have q4 : n ≤ cap := hcap
 have q5 : cap ≤ 9223372036854775807 := hmax
 have hsl := J hnl
 have hn1 := J (show i + (n - (i + 1)) = n - 1 by omega)
 have HA := J hA
 obtain ⟨i0, hi0, hz0, hz1, hz2⟩ := info_parts que_info
 clear h hrow hlen hnews hnl hR1 hl1 hch1 hch2 hfin hW1 h1 hcap hmax
 go_enter Tryz.func136, Tryz.ntmps136
 go_wp2_with fail
 clear hA
 go_region_law (refine step_append_room (by rfl) (.tmp 22) (.tmp 25) 223 (by rfl) 237 i0 3 Tryz.underlying223 hi0 hz1 b 0 i cap (by simp [Act.eval, Act.put]) A (n - (i + 1)) (cap - (i + 1)) news (by simp [Act.eval, Act.put, HA.u]) hsl.u hsrc.u s2.u (by omega) s3.u ?_; rw [← HW.u])
 go_wp2_with fail
 all_goals
  go_ret
  have hf := HF.u
  by_cases hcc : cap = i + 1
  ·rw [hcc] at hf
   first | exact ⟨(by rw [hn1.u] <;> rfl), hf, HC.u⟩ | exact absurd hcc ‹_›
  first | exact ⟨(by rw [hn1.u] <;> rfl), hf, HC.u⟩ | exact absurd ‹cap = i + 1› hcc
/- slices.IndexFunc at []api.Message, the function (*queue.Queue).Lease$1 -/
theorem queL_index  (p : G.Msg → Bool) (l : List G.Msg) (v : Value) (w : World) (hv : G.ListIn w 3 G.Msg.enc v l) (hlen : l.length ≤ 100000000)
  (hp : ∀ (m : G.Msg) (W : World), Below w.heap.size w W → Calls Tryz.prog 134 #[.agg #[.int .i64 m.id, .int .i64 m.till, .bool m.taken]] W fun e W' => e = .returned (.bool (p m)) ∧ Below W.heap.size W W') :
  Calls Tryz.prog 133 #[v, .func (.func 134) #[] #[]] w fun e w' => e = .returned (.int .i64 (G.idxOf (G.firstAt p l))) ∧ Below w.heap.size w w' := by
 obtain ⟨A, cap, rfl, hA⟩ := hv
 have HA := J hA; have HP := J hp
 clear hA hp
 go_enter Tryz.func133, Tryz.ntmps133
 go_wp2_with fail
 go_loopw [8] (fun i wr => ∃ k : Nat, k ≤ l.length ∧ i = .int .i64 k ∧ Hid (∀ (t : Nat) (b : G.Msg), t < k → l[t]? = some b → p b = false) ∧ Below w.heap.size w wr) (fun i _ => l.length - (intOf i).toNat)
 case atStart => exact ⟨0, by omega, rfl, fun t b ht => by omega, Below.refl _ _⟩
 obtain ⟨k, hk, rfl, hno, hb⟩ := hrel
 by_cases hlt : k < l.length
 ·obtain ⟨m, hm⟩ := G.get_some l hlt
  obtain ⟨b, off, rfl, hbl, hc⟩ := HA.u (by omega)
  have cl : ∀ (j : Nat) (u : Value), m.enc[j]? = some u → wr.cell? ⟨b, off + k * 3 + j, none⟩ = some u := fun j u hu => (hb.cell (p := ⟨b, off + k * 3 + j, none⟩) hbl).trans (hc k m j u hm hu)
  have c0 : wr.cell? ⟨b, off + k * 3, none⟩ = _ := cl 0 _ rfl
  have c1 := cl 1 _ rfl; have c2 := cl 2 _ rfl
  have i0 : (0 : Int) ≤ (k : Int) := by omega
  have i1 : (k : Int) < (l.length : Int) := by omega
  have HM := J hm
  clear hc cl hm
  go_wp2_with fail
  refine (HP.u m _ hb).mono ?_
  rintro e w1 ⟨rfl, hb1⟩
  have HB := J (hb.trans (hb1.mono hb.size))
  cases hpm : p m
  ·have HN := J (show ∀ (t : Nat) (b : G.Msg), t < k + 1 → l[t]? = some b → p b = false from fun t b ht hb => by
    rcases Nat.lt_succ_iff_lt_or_eq.mp ht with h | h
    ·exact hno.u t b h hb
    subst h; rw [HM.u] at hb; cases hb; exact hpm)
   clear hb hb1 hno hpm
   go_wp2_with fail
   go_roundw
   case rel => exact ⟨k + 1, by omega, by go_num, HN, HB.u⟩
   case measure => simp [intOf]; omega
  have HN := J (G.firstAt_some hno.u HM.u hpm)
  clear hb hb1 hno hpm
  go_wp2_with fail
  go_ret
  exact ⟨by rw [HN.u]; rfl, HB.u⟩
 have hke : k = l.length := by omega
 have HN := J (G.firstAt_none (p := p) (l := l) (fun t b hb => hno.u t b (by rw [hke]; exact G.get_lt hb) hb))
 have HB := J hb
 clear hb hno hke
 go_wp2_with fail
 go_ret
 exact ⟨by rw [HN.u]; rfl, HB.u⟩
/- slices.IndexFunc at []api.Message, the function (*queue.Queue).Ack$1 -/
theorem queA_index (B : Nat) (p : G.Msg → Bool) (l : List G.Msg) (v : Value) (w : World) (hv : G.ListIn w 3 G.Msg.enc v l) (hlen : l.length ≤ 100000000)
  (hp : ∀ (m : G.Msg) (W : World), Below w.heap.size w W → Calls Tryz.prog 135 #[.agg #[.int .i64 m.id, .int .i64 m.till, .bool m.taken], .pointer (some ⟨B, 0, none⟩)] W fun e W' => e = .returned (.bool (p m)) ∧ Below W.heap.size W W') :
  Calls Tryz.prog 133 #[v, .func (.func 135) #[] #[.pointer (some ⟨B, 0, none⟩)]] w fun e w' => e = .returned (.int .i64 (G.idxOf (G.firstAt p l))) ∧ Below w.heap.size w w' := by
 obtain ⟨A, cap, rfl, hA⟩ := hv
 have HA := J hA; have HP := J hp
 clear hA hp
 go_enter Tryz.func133, Tryz.ntmps133
 go_wp2_with fail
 go_loopw [8] (fun i wr => ∃ k : Nat, k ≤ l.length ∧ i = .int .i64 k ∧ Hid (∀ (t : Nat) (b : G.Msg), t < k → l[t]? = some b → p b = false) ∧ Below w.heap.size w wr) (fun i _ => l.length - (intOf i).toNat)
 case atStart => exact ⟨0, by omega, rfl, fun t b ht => by omega, Below.refl _ _⟩
 obtain ⟨k, hk, rfl, hno, hb⟩ := hrel
 by_cases hlt : k < l.length
 ·obtain ⟨m, hm⟩ := G.get_some l hlt
  obtain ⟨b, off, rfl, hbl, hc⟩ := HA.u (by omega)
  have cl : ∀ (j : Nat) (u : Value), m.enc[j]? = some u → wr.cell? ⟨b, off + k * 3 + j, none⟩ = some u := fun j u hu => (hb.cell (p := ⟨b, off + k * 3 + j, none⟩) hbl).trans (hc k m j u hm hu)
  have c0 : wr.cell? ⟨b, off + k * 3, none⟩ = _ := cl 0 _ rfl
  have c1 := cl 1 _ rfl; have c2 := cl 2 _ rfl
  have i0 : (0 : Int) ≤ (k : Int) := by omega
  have i1 : (k : Int) < (l.length : Int) := by omega
  have HM := J hm
  clear hc cl hm
  go_wp2_with fail
  refine (HP.u m _ hb).mono ?_
  rintro e w1 ⟨rfl, hb1⟩
  have HB := J (hb.trans (hb1.mono hb.size))
  cases hpm : p m
  ·have HN := J (show ∀ (t : Nat) (b : G.Msg), t < k + 1 → l[t]? = some b → p b = false from fun t b ht hb => by
    rcases Nat.lt_succ_iff_lt_or_eq.mp ht with h | h
    ·exact hno.u t b h hb
    subst h; rw [HM.u] at hb; cases hb; exact hpm)
   clear hb hb1 hno hpm
   go_wp2_with fail
   go_roundw
   case rel => exact ⟨k + 1, by omega, by go_num, HN, HB.u⟩
   case measure => simp [intOf]; omega
  have HN := J (G.firstAt_some hno.u HM.u hpm)
  clear hb hb1 hno hpm
  go_wp2_with fail
  go_ret
  exact ⟨by rw [HN.u]; rfl, HB.u⟩
 have hke : k = l.length := by omega
 have HN := J (G.firstAt_none (p := p) (l := l) (fun t b hb => hno.u t b (by rw [hke]; exact G.get_lt hb) hb))
 have HB := J hb
 clear hb hno hke
 go_wp2_with fail
 go_ret
 exact ⟨by rw [HN.u]; rfl, HB.u⟩
theorem queFree (m : G.Msg) (W : World) : Calls Tryz.prog 134 #[.agg #[.int .i64 m.id, .int .i64 m.till, .bool m.taken]] W fun e W' => e = .returned (.bool (G.free m)) ∧ Below W.heap.size W W' := by
 go_enter Tryz.func134, Tryz.ntmps134
 go_wp2_with fail
 go_ret
 exact ⟨rfl, (Below.refl _ _).alloc (Nat.le_refl _) _⟩
theorem queIs (id : Int) (B : Nat) (m : G.Msg) (W : World) (h : W.cell? ⟨B, 0, none⟩ = some (.int .i64 id)) : Calls Tryz.prog 135 #[.agg #[.int .i64 m.id, .int .i64 m.till, .bool m.taken], .pointer (some ⟨B, 0, none⟩)] W fun e W' => e = .returned (.bool (G.isId id m)) ∧ Below W.heap.size W W' := by
 have hB := World.block_lt_of_cell? W _ h
 simp only at hB
 go_enter Tryz.func135, Tryz.ntmps135
 go_wp2_with fail
 go_ret
 exact ⟨rfl, (Below.refl _ _).alloc (Nat.le_refl _) _⟩
open Go.RowKit
theorem fle_alloc_size (w : World) (o : Obj) : (w.alloc o).drew.heap.size = w.drew.heap.size + 1 := by
 show (w.alloc o).heap.size = w.heap.size + 1
 simp
section
variable {T : TypeId} {S : Nat → Prop} {w w1 : World} {g b cap : Nat} {l : List G.Pod} {v : Value} {last most : Int}
theorem FAt.tick (h : FAt T S w g v l last most) (hT : T ≠ 177) (x : Int) : FAt T S (w.setCell ⟨g, 1, none⟩ (.int .i64 x)) g v l x most ∧ G.Chg S w (w.setCell ⟨g, 1, none⟩ (.int .i64 x)) :=
 ⟨⟨h.head.put 1 _, h.row.aside (p := ⟨g, 1, none⟩) (h.apart hT) _, h.own, h.small, fun c hc => by rw [G.size_put]; exact h.lim c hc⟩, (G.Chg.refl S w).put (p := ⟨g, 1, none⟩) (.inl h.own) _⟩
theorem FAt.app {r : G.Pod} {o : Obj} (h : FAt T S w g v l last most) (hT : T ≠ 177) (hl : l.length < 100000000)
  (h1 : w1.ownsRow 0 177 3 (.slice (some ⟨b, 0, none⟩) (l.length + 1) cap) (l.length + 1) (l.flatMap G.Pod.enc ++ r.enc)) (hg : (w.alloc o).grownBy w1 v.ownBlock) (ho : v.ownBlock = some b ∨ b = w.heap.size + 1) (hlt : b < w1.heap.size) :
  (w1.cell? ⟨g, 0, none⟩ = some v ∧ w1.frozen? ⟨g, 0, none⟩ = false) ∧
  FAt T (G.Plus S w (w1.setCell ⟨g, 0, none⟩ (.slice (some ⟨b, 0, none⟩) (l.length + 1) cap))) (w1.setCell ⟨g, 0, none⟩ (.slice (some ⟨b, 0, none⟩) (l.length + 1) cap)) g (.slice (some ⟨b, 0, none⟩) (l.length + 1) cap) (l ++ [r]) last most ∧
  G.Chg S w (w1.setCell ⟨g, 0, none⟩ (.slice (some ⟨b, 0, none⟩) (l.length + 1) cap)) := by
 have z : (w.alloc o).heap.size = w.heap.size + 1 := by simp
 obtain ⟨r1, r2⟩ := (h.row.alloc o).app h1 hg (ho.imp id (fun e => by rw [e, z])) hlt
 have hA := (h.head.alloc o).grown hg (fun e => h.row.apartAt h.head (Ne.symm hT) g e rfl)
 have z2 := r2.size
 have e1 : (l ++ [r]).length = l.length + 1 := by simp
 have e2 : (l ++ [r]).flatMap G.Pod.enc = l.flatMap G.Pod.enc ++ r.enc := by simp
 refine ⟨⟨hA.here rfl, hA.soft 0⟩, ⟨hA.put 0 _, ?_, .inl h.own, by rw [e1]; omega, fun c hb => ?_⟩, ((G.Chg.refl S w).alloc o).trans (r2.put (.inl h.own) _)⟩
 ·rw [e1, e2]
  refine (r1.mono fun c hc hb => ?_).aside (p := ⟨g, 0, none⟩) (r1.apartAt hA (Ne.symm hT)) _
  rcases hb with hb | hb
  ·exact .inl hb
  exact .inr ⟨by omega, by rw [G.size_put]; exact hc⟩
 rcases hb with hb | hb
 ·have := h.lim c hb
  rw [G.size_put]; omega
 exact hb.2
theorem FAt.plus {w0 w2 : World} {v' : Value} {l' : List G.Pod} {last' : Int} (hc : G.Chg S w0 w) (h : FAt T (G.Plus (G.Plus S w0 w) w w2) w2 g v' l' last' most) (hc2 : G.Chg (G.Plus S w0 w) w w2) : FAt T (G.Plus S w0 w2) w2 g v' l' last' most ∧ G.Chg S w0 w2 := by
 have z1 := hc.size
 have z2 := hc2.size
 refine ⟨h.mono (fun c hlt hb => ?_) (fun c hb => ?_), hc.plus hc2⟩
 ·rcases hb with hb | hb
  ·exact hb.up (by omega)
  exact .inr ⟨by omega, hlt⟩
 rcases hb with hb | hb
 ·exact h.lim c (.inl (.inl hb))
 exact hb.2
end
theorem FAt.wide {T : TypeId} {S : Nat → Prop} {w0 w w' : World} {g : Nat} {v : Value} {l : List G.Pod} {last most : Int} (h : FAt T (G.Plus S w0 w) w' g v l last most) (hz : w.heap.size ≤ w'.heap.size) (hz0 : w0.heap.size ≤ w'.heap.size) : FAt T (G.Plus S w0 w') w' g v l last most :=
 h.mono (fun c _ hb => hb.up hz) (fun c hb => by
  rcases hb with hb | hb
  ·exact h.lim c (.inl hb)
  exact hb.2)
def ScalePost (T : TypeId) (S : Nat → Prop) (w : World) (g : Nat) (l : List G.Pod) (last most n : Int) (e : Ending) (w' : World) : Prop :=
 e = .returned (.int .i64 (G.scaleErr n)) ∧ (∃ v, FAt T (G.Plus S w w') w' g v (G.scaleLst l last n) (G.scaleLast l last n) most) ∧ G.Chg S w w'
theorem scale_no {T : TypeId} {S : Nat → Prop} {w : World} {g : Nat} {v : Value} {l : List G.Pod} {last most n : Int} (h : FAt T S w g v l last most) (hn : n < 0 ∨ 50 < n) : ScalePost T S w g l last most n (.returned (.int .i64 1)) w := by
 refine ⟨by unfold G.scaleErr; rw [if_pos hn], ⟨v, ?_⟩, G.Chg.refl _ _⟩
 unfold G.scaleLst G.scaleLast G.scaleUp G.scaleDown
 rw [if_pos hn, if_pos hn]
 simpa [G.newPods, G.thinN] using h.up
theorem fleScale (S : Nat → Prop) (g : Nat) (v : Value) (l : List G.Pod) (last most n : Int) (w : World) (h : FAt 227 S w g v l last most) (hcr : G.Crewed l last most) (hm : 0 ≤ most) (hsm : l.length ≤ 90000000) (hla : last ≤ 1000000000000) :
  Calls Tryz.prog 165 #[.pointer (some ⟨g, 0, none⟩), .int .i64 n] w (ScalePost 227 S w g l last most n) := by
 have HH := J h
 clear h
 by_cases h1 : n < 0
 ·have HF := J (scale_no HH.u (.inl h1))
  go_enter Tryz.func165, Tryz.ntmps165
  go_wp2_with fail
  go_ret
  exact HF.u
 by_cases h2 : 50 < n
 ·have HF := J (scale_no HH.u (.inr h2))
  have h1' : 0 ≤ n := by omega
  clear h1
  go_enter Tryz.func165, Tryz.ntmps165
  go_wp2_with fail
  go_ret
  exact HF.u
 have h1' : 0 ≤ n := by omega
 have h2' : n ≤ 50 := by omega
 have hnn := G.liveN_nn l
 have HU := J (show G.scaleUp l n = (n - G.liveN l).toNat by unfold G.scaleUp; rw [if_neg (by omega)])
 have HD := J (show G.scaleDown l n = (G.liveN l - n).toNat by unfold G.scaleDown; rw [if_neg (by omega)])
 have HE := J (show G.scaleErr n = 0 by unfold G.scaleErr; rw [if_neg (by omega)])
 have HCr := J hcr
 have hl0 := hcr.last0
 obtain ⟨i0, hi, hz0, hz1, hz2⟩ := info_parts fle_info
 have hUle := J (show G.scaleUp l n ≤ 50 by rw [HU.u]; omega)
 clear h1 h2 hcr
 go_enter Tryz.func165, Tryz.ntmps165
 go_wp2_with fail
 go_loopg [] (G.scaleUp l n) (fun k wr => ∃ (m : Nat) (vk : Value), m ≤ G.scaleUp l n ∧ k = G.scaleUp l n - m ∧ Hid (FAt 227 (G.Plus S w wr) wr g vk (l ++ G.newPods last m) (last + m) most ∧ G.Chg S w wr))
 case atStart => exact ⟨0, _, by omega, by omega, J ⟨by simpa [G.newPods] using HH.u.up, G.Chg.refl _ _⟩⟩
 obtain ⟨m, vk, hmk, hke, HF⟩ := hrel
 have HKe := J hke; have HMk := J hmk
 have HLv := J (G.live_more l last m)
 have hL : (l ++ G.newPods last m).length < 100000000 := by simp [G.newPods_length]; have := hUle.u; omega
 have HLL := J hL
 have HSucc := J (show l ++ G.newPods last (m + 1) = (l ++ G.newPods last m) ++ [⟨last + 1 + m, 1, 0⟩] by rw [G.newPods_succ, List.append_assoc])
 have HAll := J (show G.scaleLst l last n = G.thinN (G.scaleDown l n) (l ++ G.newPods last (G.scaleUp l n)) from rfl)
 have HLast := J (show G.scaleLast l last n = last + (G.scaleUp l n : Nat) from rfl)
 have HCm := J (HCr.u.more hm m)
 clear hke hmk hL
 by_cases hlt : m < G.scaleUp l n
 ·have hcmp : G.liveN (l ++ G.newPods last m) < n := by have e := HLv.u; have e2 := HU.u; omega
  have HM := J hlt
  have hmm : (m : Int) ≤ 50 := by have := hUle.u; omega
  clear hlt HAll HLast
  go_wp2_with fail
  refine (fleCount _ g vk _ _ most _ HF.u.1).mono ?_
  rintro e w1 ⟨rfl, hb1⟩
  have HC1 := J (HF.u.2.step_below hb1 HF.u.2.size)
  have h1F := (HF.u.1.below hb1).wide hb1.size HC1.u.size
  have hd := h1F.head.here (i := 1) rfl
  have fd := h1F.head.soft 1
  have t1 := h1F.tick (by decide) (last + m + 1)
  have HT := J (show FAt 227 (G.Plus S w (w1.setCell ⟨g, 1, none⟩ (.int .i64 (last + m + 1)))) (w1.setCell ⟨g, 1, none⟩ (.int .i64 (last + m + 1))) g vk (l ++ G.newPods last m) (last + m + 1) most ∧ G.Chg S w (w1.setCell ⟨g, 1, none⟩ (.int .i64 (last + m + 1))) from ⟨t1.1.wide t1.2.size (by have := t1.2.size; have := HC1.u.size; omega), HC1.u.plus t1.2⟩)
  clear hb1 h1F t1 HF HC1
  generalize G.liveN (l ++ G.newPods last m) = cN at hcmp HLv ⊢
  generalize l ++ G.newPods last m = L at HT HSucc HLL HCm ⊢
  go_upto_region 5 with fail
  clear hd fd hcmp
  obtain ⟨W, hW⟩ : ∃ W, Hid (w1.setCell ⟨g, 1, none⟩ (.int .i64 (last + m + 1)) = W) := ⟨_, J rfl⟩
  rw [hW.u] at HT ⊢
  have hc : W.cell? ⟨g, 0, none⟩ = some vk := HT.u.1.head.here rfl
  have hd := HT.u.1.head.here (i := 1) rfl
  have f0 := HT.u.1.head.soft 0
  have hgw : g < W.heap.size := HT.u.1.head.inside
  have hm3 : Hid (L.length + 1 ≤ maxLen) := J (by have := HLL.u; simp only [maxLen]; omega)
  have hm4 : Hid ((L.length + 1) * 24 ≤ 140737488355328) := J (by have := HLL.u; omega)
  clear hW
  go_wp2_with fail
  go_region_law (refine step_append_lies _ (by rfl) (.tmp 26) (.tmp 32) 174 (by rfl) 0 177 i0 (.agg #[.int .i64 0, .int .i64 0, .int .i64 0]) 3 24 Tryz.underlying174 hi hz0 hz1 hz2 rfl (by decide) vk _ _ rfl (HT.u.1.alloc _).drew.row.owns ⟨W.heap.size, 0, none⟩ 1 1 [.int .i64 (last + m + 1), .int .i64 1, .int .i64 0] rfl rfl (G.new_cells_at rfl) (by simp [Value.oneCell']) (by decide) hm3.u hm4.u (Nat.zero_le _) _ rfl ?_; intro b cap w3 hown hg ho hlt; obtain ⟨⟨d9, f9⟩, hA, hC⟩ := HT.u.1.drew.app (r := ⟨last + m + 1, 1, 0⟩) (by decide) HLL.u hown hg (ho.imp id (fun e => e.trans (fle_alloc_size _ _))) hlt)
  all_goals
   have HN := J (FAt.plus (w := W.drew) HT.u.2.drew hA hC)
   clear hown hg ho hlt hA hC hc hd f0 d9 f9 hgw
   go_wp2_with fail
   go_roundg (G.scaleUp l n - (m + 1))
   case measure => have := HM.u; have := HKe.u; omega
   case rel => exact ⟨m + 1, _, by have := HM.u; omega, rfl, J ⟨by rw [HSucc.u, show last + 1 + (m : Int) = last + m + 1 by omega, show last + ((m + 1 : Nat) : Int) = last + m + 1 by omega]; exact HN.u.1, HN.u.2⟩⟩
 have hme : m = G.scaleUp l n := by have := HMk.u; omega
 subst hme
 have hcmp : n ≤ G.liveN (l ++ G.newPods last (G.scaleUp l n)) := by have e := HLv.u; have e2 := HU.u; omega
 have HLv2 := J (show G.liveN (l ++ G.newPods last (G.scaleUp l n)) - n = (G.scaleDown l n : Int) by have e := HLv.u; have e2 := HU.u; have e3 := HD.u; omega)
 clear hlt HSucc
 rw [← HLast.u] at HF HCm
 generalize l ++ G.newPods last (G.scaleUp l n) = L at HF HAll HLv2 HCm hcmp HLL HLv ⊢
 go_wp2_with fail
 refine (fleCount _ g vk _ _ most _ HF.u.1).mono ?_
 rintro e w1 ⟨rfl, hb1⟩
 have HC1 := J (HF.u.2.step_below hb1 HF.u.2.size)
 have H1 := J (show FAt 227 (G.Plus S w w1) w1 g vk L (G.scaleLast l last n) most ∧ G.Chg S w w1 from ⟨(HF.u.1.below hb1).wide hb1.size HC1.u.size, HC1.u⟩)
 clear hb1 HF HC1
 go_wp2_with fail
 go_loopg [] (G.scaleDown l n) (fun k wr => ∃ (j : Nat) (vj : Value), j ≤ G.scaleDown l n ∧ k = G.scaleDown l n - j ∧ Hid (FAt 227 (G.Plus S w wr) wr g vj (G.thinN j L) (G.scaleLast l last n) most ∧ G.Chg S w wr))
 case atStart => exact ⟨0, _, by omega, by omega, H1⟩
 clear H1
 obtain ⟨j, vj, hjk, hke, HF⟩ := hrel
 have hfn := J (HCm.u.thinN j (by have := HLv2.u; omega))
 have HKe := J hke; have HJk := J hjk
 have HS := J (G.thinN_succ j L)
 clear hke hjk
 go_wp2_with fail
 refine (fleCount _ g vj _ _ most _ HF.u.1).mono ?_
 rintro e w2 ⟨rfl, hb2⟩
 have HC2 := J (HF.u.2.step_below hb2 HF.u.2.size)
 have H2 := J (show FAt 227 (G.Plus S w w2) w2 g vj (G.thinN j L) (G.scaleLast l last n) most ∧ G.Chg S w w2 from ⟨(HF.u.1.below hb2).wide hb2.size HC2.u.size, HC2.u⟩)
 clear hb2 HF HC2
 by_cases hlt : j < G.scaleDown l n
 ·have hcm2 : n < G.liveN (G.thinN j L) := by have := hfn.u.2.1; have := HLv2.u; omega
  have HJ := J hlt
  have HP := J (show 0 < G.liveN (G.thinN j L) by omega)
  clear hlt hcmp
  generalize G.liveN (G.thinN j L) = cN at hcm2 ⊢
  go_wp2_with fail
  refine (fleFewer _ g vj _ _ most _ H2.u.1 hfn.u.1.states HP.u).mono ?_
  rintro e w3 ⟨⟨x, rfl⟩, ⟨v3, h3⟩, c3⟩
  have HN := J (show FAt 227 (G.Plus S w w3) w3 g v3 (G.thinN (j + 1) L) (G.scaleLast l last n) most ∧ G.Chg S w w3 from ⟨by rw [HS.u]; exact h3.wide c3.size (Nat.le_trans H2.u.2.size c3.size), H2.u.2.plus c3⟩)
  clear h3 c3
  go_wp2_with fail
  go_roundg (G.scaleDown l n - (j + 1))
  case measure => have := HJ.u; have := HKe.u; omega
  case rel => exact ⟨j + 1, _, by have := HJ.u; omega, rfl, HN⟩
 have hje : j = G.scaleDown l n := by have := HJk.u; omega
 subst hje
 have hcm2 : G.liveN (G.thinN (G.scaleDown l n) L) ≤ n := by have := hfn.u.2.1; have := HLv2.u; omega
 have HR := J (show ScalePost 227 S w g l last most n (.returned (.int .i64 0)) w2 from ⟨by rw [HE.u], ⟨_, by rw [HAll.u]; exact H2.u.1⟩, H2.u.2⟩)
 clear hlt hcmp
 generalize G.liveN (G.thinN (G.scaleDown l n) L) = cN at hcm2 ⊢
 go_wp2_with fail
 go_ret
 exact HR.u
end Go.Proofs.YtoidcbpcnikejaaGreatDoor
