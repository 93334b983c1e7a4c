/- The contract of end; Late, Lost. -/
import Derived.Test.YtgcdomoecikooaaBufF
namespace Go.Proofs.Ytgcdomoecikooaa
open Go.RowKit
set_option linter.unusedVariables false

theorem bufInt_info : (Try.prog.info? 3).map (fun i => (i.zero, i.size, i.bytes)) = some (some (.int .i64 0), 1, 8) := by kernel_rfl
def EndPost (T : TypeId) (S : Nat → Prop) (w : World) (g : Nat) (v : Value) (l : List Tide.Req) (p : Tide.Req → Bool) (fate : Int) (e : Ending) (w' : World) : Prop :=
  ∃ v', e = .returned v' ∧ Tide.OwnRow (fun b => w.heap.size ≤ b) w' 3 1 v' (Tide.idsF p l).length ((Tide.idsF p l).map (.int .i64)) ∧ BAt T S w' g v (l.map (Tide.setF p fate)) ∧ Tide.Chg S w w'
structure EndMid (T : TypeId) (S : Nat → Prop) (w wr : World) (g : Nat) (v : Value) (lb : List Tide.Req) (ids : List Int) (o : Value) : Prop where
  buf : BAt T S wr g v lb
  out : Tide.OwnRow (fun b => w.heap.size ≤ b) wr 3 1 o ids.length (ids.map (.int .i64))
  chg : Tide.Chg S w wr
  low : ∀ b, S b → b < w.heap.size
theorem EndMid.alloc {T : TypeId} {S : Nat → Prop} {w wr : World} {g : Nat} {v : Value} {lb : List Tide.Req} {ids : List Int} {o : Value} (h : EndMid T S w wr g v lb ids o) (ob : Obj) : EndMid T S w (wr.alloc ob) g v lb ids o :=
  ⟨h.buf.alloc ob, h.out.alloc ob, h.chg.alloc ob, h.low⟩
theorem EndMid.below {T : TypeId} {S : Nat → Prop} {w wr w1 : World} {g : Nat} {v : Value} {lb : List Tide.Req} {ids : List Int} {o : Value} (h : EndMid T S w wr g v lb ids o) (hb : Below wr.heap.size wr w1) : EndMid T S w w1 g v lb ids o :=
  ⟨h.buf.below hb, h.out.below hb (Nat.le_refl _), h.chg.step_below hb h.chg.size, h.low⟩
def EndRun (T : TypeId) (S : Nat → Prop) (w wr : World) (g : Nat) (v : Value) (l : List Tide.Req) (p : Tide.Req → Bool) (fate : Int) (k : Nat) (o : Value) : Prop :=
  EndMid T S w wr g v (Tide.upTo (Tide.setF p fate) l k) (Tide.idsF p (l.take k)) o
theorem EndRun.start {T : TypeId} {S : Nat → Prop} {w : World} {g : Nat} {v : Value} {l : List Tide.Req} {p : Tide.Req → Bool} {fate : Int} (h : BAt T S w g v l) : EndRun T S w w g v l p fate 0 (.slice none 0 0) :=
  ⟨by rw [Tide.upTo_zero]; exact h, Tide.OwnRow.nil _ _ _ _, Tide.Chg.refl _ _, h.lim⟩
theorem EndRun.done {T : TypeId} {S : Nat → Prop} {w wr : World} {g : Nat} {v : Value} {l : List Tide.Req} {p : Tide.Req → Bool} {fate : Int} {o : Value} (h : EndRun T S w wr g v l p fate l.length o) : EndPost T S w g v l p fate (.returned o) wr := by
  have hb := h.buf; have ho := h.out
  rw [Tide.upTo_all] at hb
  rw [List.take_length] at ho
  exact ⟨o, rfl, ho, hb, h.chg⟩
theorem idsF_no {p : Tide.Req → Bool} {l : List Tide.Req} {k : Nat} {r : Tide.Req} (hr : l[k]? = some r) (hp : p r = false) : Tide.idsF p (l.take (k + 1)) = Tide.idsF p (l.take k) := by
  unfold Tide.idsF; rw [Tide.filter_snoc hr, hp]; simp
theorem idsF_yes {p : Tide.Req → Bool} {l : List Tide.Req} {k : Nat} {r : Tide.Req} (hr : l[k]? = some r) (hp : p r = true) : Tide.idsF p (l.take (k + 1)) = Tide.idsF p (l.take k) ++ [r.id] := by
  unfold Tide.idsF; rw [Tide.filter_snoc hr, hp]; simp
theorem idsF_le (p : Tide.Req → Bool) (l : List Tide.Req) (k : Nat) : (Tide.idsF p (l.take k)).length ≤ l.length := by
  unfold Tide.idsF; rw [List.length_map]
  exact Nat.le_trans (List.length_filter_le _ _) (by rw [List.length_take]; omega)
theorem EndMid.skip {T : TypeId} {S : Nat → Prop} {w wr : World} {g : Nat} {v : Value} {l : List Tide.Req} {p : Tide.Req → Bool} {fate : Int} {k : Nat} {o : Value} {r : Tide.Req} (h : EndMid T S w wr g v (Tide.upTo (Tide.setF p fate) l k) (Tide.idsF p (l.take k)) o) (hr : l[k]? = some r) (hp : p r = false) : EndRun T S w wr g v l p fate (k + 1) o := by
  unfold EndRun
  rw [idsF_no hr hp, Tide.upTo_same hr (by unfold Tide.setF; rw [hp]; rfl)]
  exact h
theorem EndMid.put {T : TypeId} {S : Nat → Prop} {w wr : World} {g b cap n : Nat} {l : List Tide.Req} {p : Tide.Req → Bool} {fate : Int} {k : Nat} {ids : List Int} {o : Value} {r : Tide.Req} (h : EndMid T S w wr g (.slice (some ⟨b, 0, none⟩) n cap) (Tide.upTo (Tide.setF p fate) l k) ids o) (hT : T ≠ 42) (hr : l[k]? = some r) (hp : p r = true) :
    EndMid T S w (wr.setCell ⟨b, k * 5 + 3, none⟩ (.int .i64 fate)) g (.slice (some ⟨b, 0, none⟩) n cap) (Tide.upTo (Tide.setF p fate) l (k + 1)) ids o := by
  obtain ⟨p1, p2⟩ := h.buf.put hT (k := k) (j := 3) (r' := { r with fate := fate }) (u := .int .i64 fate) ((Tide.upTo_get _ _ _).trans hr) (by decide) rfl
  have e : (Tide.upTo (Tide.setF p fate) l k).set k { r with fate := fate } = Tide.upTo (Tide.setF p fate) l (k + 1) := by
    rw [← Tide.upTo_succ hr]; unfold Tide.setF; rw [hp]; rfl
  rw [e] at p1
  obtain ⟨b', cap', e', hS, _⟩ := h.buf.row.form (by rw [Tide.upTo_length]; have := Tide.get_lt hr; omega)
  cases e'
  exact ⟨p1, h.out.other (p := ⟨b, k * 5 + 3, none⟩) (by have := h.low b hS; simp; omega) _, h.chg.trans p2, h.low⟩
theorem EndMid.app {T : TypeId} {S : Nat → Prop} {w wr w3 : World} {g b2 cap2 : Nat} {v : Value} {l : List Tide.Req} {p : Tide.Req → Bool} {fate : Int} {k : Nat} {o : Value} {r : Tide.Req} {ob : Obj} (h : EndMid T S w wr g v (Tide.upTo (Tide.setF p fate) l (k + 1)) (Tide.idsF p (l.take k)) o) (hr : l[k]? = some r) (hp : p r = true)
    (h1 : w3.ownsRow 0 3 1 (.slice (some ⟨b2, 0, none⟩) ((Tide.idsF p (l.take k)).length + 1) cap2) ((Tide.idsF p (l.take k)).length + 1) ((Tide.idsF p (l.take k)).map (.int .i64) ++ [.int .i64 r.id])) (hg : (wr.alloc ob).grownBy w3 o.ownBlock) (ho : o.ownBlock = some b2 ∨ b2 = wr.heap.size + 1) (hlt : b2 < w3.heap.size) :
    EndRun T S w w3 g v l p fate (k + 1) (.slice (some ⟨b2, 0, none⟩) ((Tide.idsF p (l.take k)).length + 1) cap2) := by
  have z : (wr.alloc ob).heap.size = wr.heap.size + 1 := by simp
  have z1 := h.chg.size
  obtain ⟨r1, r2⟩ := (h.out.alloc ob).app h1 hg (ho.imp id (fun e => by rw [e, z])) hlt
  unfold EndRun
  refine ⟨(h.buf.alloc ob).chg r2 (fun b hb hn => by have := h.low b hb; omega), ?_, (h.chg.alloc ob).step r2 (fun b hb => .inr hb), h.low⟩
  rw [idsF_yes hr hp, List.length_append, List.map_append]
  refine r1.mono fun c _ hc => ?_
  rcases hc with hc | hc
  · exact hc
  · omega
/- end with the function (*buffer.Buffer).Late$1 -/
set_option maxRecDepth 100000 in
set_option maxHeartbeats 6400000 in
theorem bufLate_end (B : Nat) (p : Tide.Req → Bool) (fate : Int) (S : Nat → Prop) (g : Nat) (v : Value) (l : List Tide.Req) (w : World) (h : BAt 74 S w g v l)
    (hp : ∀ (r : Tide.Req) (W : World), Tide.Chg S w W → Calls Try.prog 52 #[.agg #[.int .i64 r.id, .int .i64 r.source, .int .i64 r.till, .int .i64 r.fate, .int .i64 r.pod], .pointer (some ⟨B, 0, none⟩)] W fun e W' => e = .returned (.bool (p r)) ∧ Below W.heap.size W W') :
    Calls Try.prog 51 #[.pointer (some ⟨g, 0, none⟩), .int .i64 fate, .func (.func 52) #[] #[.pointer (some ⟨B, 0, none⟩)]] w (EndPost 74 S w g v l p fate) := by
  obtain ⟨A, cap0, rfl, _, _, _⟩ := h.row.slice
  have hc : w.cell? ⟨g, 0, none⟩ = some (.slice A l.length cap0) := h.head.here rfl
  have hs := h.small
  have HH := Lib.hid h; have HP := Lib.hid hp
  clear h hp
  obtain ⟨i0, hi, hz0, hz1, hz2⟩ := info_parts bufInt_info
  go_enter Try.func51, Try.ntmps51
  go_wp2_with fail
  go_loopw [7, 15] (fun o i wr => ∃ k : Nat, k ≤ l.length ∧ i = .int .i64 k ∧ EndRun 74 S w wr g (.slice A l.length cap0) l p fate k o) (fun _ i _ => l.length - (intOf i).toNat)
  case atStart => exact ⟨0, by omega, rfl, EndRun.start HH.out⟩
  case round =>
    clear hc
    obtain ⟨k, hk, rfl, hr0⟩ := hrel
    obtain ⟨A7, c7, rfl, _, _, _⟩ := EndMid.out hr0 |>.slice
    have HR0 := Lib.hid hr0
    clear hr0
    by_cases hlt : k < l.length
    · obtain ⟨r, hr⟩ := Tide.get_some l hlt
      obtain ⟨b, cap', e, hS, _, _, hbl, c0, c1, c2, c3, c4, _⟩ := HR0.out.buf.req ((Tide.upTo_get _ _ _).trans hr)
      rw [Tide.upTo_length] at e
      cases e
      have i0' : (0 : Int) ≤ (k : Int) := by omega
      have i1 : (k : Int) < (l.length : Int) := by omega
      have HR1 := Lib.hid (HR0.out.alloc (.cells #[.int .i64 r.id, .int .i64 r.source, .int .i64 r.till, .int .i64 r.fate, .int .i64 r.pod] 42))
      have HX := Lib.hid (Tide.At.made wr 42 #[.int .i64 r.id, .int .i64 r.source, .int .i64 r.till, .int .i64 r.fate, .int .i64 r.pod])
      have HR := Lib.hid hr
      clear hr
      go_wp2_with fail
      refine (HP.out r _ HR1.out.chg).mono ?_
      rintro e w1 ⟨rfl, hb1⟩
      have HR2 := Lib.hid (HR1.out.below hb1)
      have hX := HX.out.below hb1 (by simp)
      have x0 := hX.here (i := 0) rfl
      have HX1 := Lib.hid hX
      clear hX hb1 c0 c1 c2 c3 c4 hbl
      cases hpm : p r
      · have HN := Lib.hid (HR2.out.skip HR.out hpm)
        clear x0
        go_wp2_with fail
        go_roundw
        case rel => exact ⟨k + 1, by omega, by go_num, HN.out⟩
        case measure => simp [intOf]; omega
      · have hc : w1.cell? ⟨g, 0, none⟩ = some (.slice (some ⟨b, 0, none⟩) l.length cap0) := HR2.out.buf.head.here rfl
        obtain ⟨b', cap', e, hS', _, _, hbl, c0, c1, c2, c3, c4, fz⟩ := HR2.out.buf.req ((Tide.upTo_get _ _ _).trans HR.out)
        rw [Tide.upTo_length] at e
        cases e
        have f3 := fz (k * 5 + 3)
        clear c0 c1 c2 c4 fz x0
        have HQ := Lib.hid (HR2.out.put (fate := fate) (by decide) HR.out hpm)
        have HXp := Lib.hid (HX1.out.other (p := ⟨b, k * 5 + 3, none⟩) (by
          have := HR0.out.buf.lim b hS'
          intro e; simp at e; omega) (.int .i64 fate))
        have HS' := Lib.hid hS'
        go_upto_region 7 with fail
        generalize w1.setCell ⟨b, k * 5 + 3, none⟩ (.int .i64 fate) = w2 at HQ HXp ⊢
        have x0' := HXp.out.here (i := 0) rfl
        clear hc c3 f3 hbl
        have hle := idsF_le p l (k + 1)
        have hle0 := idsF_le p l k
        have hm3 := Lib.hid (show (Tide.idsF p (l.take k)).length + 1 ≤ maxLen by simp only [maxLen]; omega)
        have hm4 := Lib.hid (show ((Tide.idsF p (l.take k)).length + 1) * 8 ≤ 140737488355328 by omega)
        clear hle hle0
        go_wp2_with (at_builtin; refine wpList_append_lies _ (by rfl) (.tmp 31) (.tmp 34) 32 (by rfl) 0 3 i0 (.int .i64 0) 1 8 Try.underlying32 hi hz0 hz1 hz2 rfl (by decide) (.slice A7 (Tide.idsF p (l.take k)).length c7) _ _ rfl (HQ.out.out.alloc _).owns ⟨w2.heap.size, 0, none⟩ 1 1 [.int .i64 r.id] rfl rfl (buf_cells_in rfl) (by simp [Value.oneCell']) (by decide) hm3.out hm4.out (Nat.zero_le _) _ rfl ?_)
        intro b2 cap2 w3 hown hg ho hlt2
        have HN := Lib.hid (HQ.out.app HR.out hpm hown hg ho hlt2)
        clear hown hg ho hlt2 x0'
        go_wp2_with fail
        go_roundw
        case rel => exact ⟨k + 1, by omega, by go_num, HN.out⟩
        case measure => simp [intOf]; omega
    · have hke : k = l.length := by omega
      subst hke
      have HF := Lib.hid HR0.out.done
      go_wp2_with fail
      go_ret
      exact HF.out
/- end with the function (*buffer.Buffer).Lost$1 -/
set_option maxRecDepth 100000 in
set_option maxHeartbeats 6400000 in
theorem bufLost_end (B : Nat) (p : Tide.Req → Bool) (fate : Int) (S : Nat → Prop) (g : Nat) (v : Value) (l : List Tide.Req) (w : World) (h : BAt 74 S w g v l)
    (hp : ∀ (r : Tide.Req) (W : World), Tide.Chg S w W → Calls Try.prog 55 #[.agg #[.int .i64 r.id, .int .i64 r.source, .int .i64 r.till, .int .i64 r.fate, .int .i64 r.pod], .pointer (some ⟨B, 0, none⟩)] W fun e W' => e = .returned (.bool (p r)) ∧ Below W.heap.size W W') :
    Calls Try.prog 51 #[.pointer (some ⟨g, 0, none⟩), .int .i64 fate, .func (.func 55) #[] #[.pointer (some ⟨B, 0, none⟩)]] w (EndPost 74 S w g v l p fate) := by
  obtain ⟨A, cap0, rfl, _, _, _⟩ := h.row.slice
  have hc : w.cell? ⟨g, 0, none⟩ = some (.slice A l.length cap0) := h.head.here rfl
  have hs := h.small
  have HH := Lib.hid h; have HP := Lib.hid hp
  clear h hp
  obtain ⟨i0, hi, hz0, hz1, hz2⟩ := info_parts bufInt_info
  go_enter Try.func51, Try.ntmps51
  go_wp2_with fail
  go_loopw [7, 15] (fun o i wr => ∃ k : Nat, k ≤ l.length ∧ i = .int .i64 k ∧ EndRun 74 S w wr g (.slice A l.length cap0) l p fate k o) (fun _ i _ => l.length - (intOf i).toNat)
  case atStart => exact ⟨0, by omega, rfl, EndRun.start HH.out⟩
  case round =>
    clear hc
    obtain ⟨k, hk, rfl, hr0⟩ := hrel
    obtain ⟨A7, c7, rfl, _, _, _⟩ := EndMid.out hr0 |>.slice
    have HR0 := Lib.hid hr0
    clear hr0
    by_cases hlt : k < l.length
    · obtain ⟨r, hr⟩ := Tide.get_some l hlt
      obtain ⟨b, cap', e, hS, _, _, hbl, c0, c1, c2, c3, c4, _⟩ := HR0.out.buf.req ((Tide.upTo_get _ _ _).trans hr)
      rw [Tide.upTo_length] at e
      cases e
      have i0' : (0 : Int) ≤ (k : Int) := by omega
      have i1 : (k : Int) < (l.length : Int) := by omega
      have HR1 := Lib.hid (HR0.out.alloc (.cells #[.int .i64 r.id, .int .i64 r.source, .int .i64 r.till, .int .i64 r.fate, .int .i64 r.pod] 42))
      have HX := Lib.hid (Tide.At.made wr 42 #[.int .i64 r.id, .int .i64 r.source, .int .i64 r.till, .int .i64 r.fate, .int .i64 r.pod])
      have HR := Lib.hid hr
      clear hr
      go_wp2_with fail
      refine (HP.out r _ HR1.out.chg).mono ?_
      rintro e w1 ⟨rfl, hb1⟩
      have HR2 := Lib.hid (HR1.out.below hb1)
      have hX := HX.out.below hb1 (by simp)
      have x0 := hX.here (i := 0) rfl
      have HX1 := Lib.hid hX
      clear hX hb1 c0 c1 c2 c3 c4 hbl
      cases hpm : p r
      · have HN := Lib.hid (HR2.out.skip HR.out hpm)
        clear x0
        go_wp2_with fail
        go_roundw
        case rel => exact ⟨k + 1, by omega, by go_num, HN.out⟩
        case measure => simp [intOf]; omega
      · have hc : w1.cell? ⟨g, 0, none⟩ = some (.slice (some ⟨b, 0, none⟩) l.length cap0) := HR2.out.buf.head.here rfl
        obtain ⟨b', cap', e, hS', _, _, hbl, c0, c1, c2, c3, c4, fz⟩ := HR2.out.buf.req ((Tide.upTo_get _ _ _).trans HR.out)
        rw [Tide.upTo_length] at e
        cases e
        have f3 := fz (k * 5 + 3)
        clear c0 c1 c2 c4 fz x0
        have HQ := Lib.hid (HR2.out.put (fate := fate) (by decide) HR.out hpm)
        have HXp := Lib.hid (HX1.out.other (p := ⟨b, k * 5 + 3, none⟩) (by
          have := HR0.out.buf.lim b hS'
          intro e; simp at e; omega) (.int .i64 fate))
        have HS' := Lib.hid hS'
        go_upto_region 7 with fail
        generalize w1.setCell ⟨b, k * 5 + 3, none⟩ (.int .i64 fate) = w2 at HQ HXp ⊢
        have x0' := HXp.out.here (i := 0) rfl
        clear hc c3 f3 hbl
        have hle := idsF_le p l (k + 1)
        have hle0 := idsF_le p l k
        have hm3 := Lib.hid (show (Tide.idsF p (l.take k)).length + 1 ≤ maxLen by simp only [maxLen]; omega)
        have hm4 := Lib.hid (show ((Tide.idsF p (l.take k)).length + 1) * 8 ≤ 140737488355328 by omega)
        clear hle hle0
        go_wp2_with (at_builtin; refine wpList_append_lies _ (by rfl) (.tmp 31) (.tmp 34) 32 (by rfl) 0 3 i0 (.int .i64 0) 1 8 Try.underlying32 hi hz0 hz1 hz2 rfl (by decide) (.slice A7 (Tide.idsF p (l.take k)).length c7) _ _ rfl (HQ.out.out.alloc _).owns ⟨w2.heap.size, 0, none⟩ 1 1 [.int .i64 r.id] rfl rfl (buf_cells_in rfl) (by simp [Value.oneCell']) (by decide) hm3.out hm4.out (Nat.zero_le _) _ rfl ?_)
        intro b2 cap2 w3 hown hg ho hlt2
        have HN := Lib.hid (HQ.out.app HR.out hpm hown hg ho hlt2)
        clear hown hg ho hlt2 x0'
        go_wp2_with fail
        go_roundw
        case rel => exact ⟨k + 1, by omega, by go_num, HN.out⟩
        case measure => simp [intOf]; omega
    · have hke : k = l.length := by omega
      subst hke
      have HF := Lib.hid HR0.out.done
      go_wp2_with fail
      go_ret
      exact HF.out
end Go.Proofs.Ytgcdomoecikooaa
