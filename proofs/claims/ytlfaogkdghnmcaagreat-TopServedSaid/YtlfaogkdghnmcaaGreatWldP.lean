/- A world without a pause: within its bounds; when its target goes to zero. -/
import Derived.Test.YtlfaogkdghnmcaaGreatWldO
import Derived.Test.YtlfaogkdghnmcaaGreatLopP
set_option linter.unusedVariables false
set_option linter.unusedSimpArgs false
namespace Tide
theorem live_all (l : List Pod) : liveN l = ((l.filter lives).length : Nat) := by unfold liveN; rw [List.countP_eq_length_filter]
end Tide
namespace Go.Proofs.YtlfaogkdghnmcaaGreat
open Go.RowKit
theorem look_may {m : Wo} {j : Nat} (h : m.ok j) : lookOk m.l m.now (min (m.sec + m.now) 100000000000) (Tide.liveN m.f) m.reads.length = true := by
  have h0 := h.now0; have h1 := h.now1; have h2 := h.sec0; have h3 := h.sec1; have h4 := h.last; have h5 := h.live; have h6 := Tide.liveN_nn m.f
  rw [lookOk_iff]
  refine ⟨h4, h1, by omega, by omega, h6, h5, ?_⟩
  unfold Wo.reads
  exact readsOf_length h.fails
structure Bds (p : Pln) (m : Wo) : Prop where
  plan : m.l.p = p
  paus : m.l.pause = -1
  live : Tide.liveN m.f ≤ p.mx
  top : m.target ≤ p.mx
  bot : 0 < m.now → p.mn ≤ m.target
  first : m.now ≤ 0 → m.l.looked = false
  tn : 0 ≤ m.target
theorem lookL_pause' (l : Lp) (now sec have0 : Int) (rs : List Rd) (busy : Bool) : (lookL l now sec have0 rs busy).pause = l.pause := by
  unfold lookL
  split
  · rfl
  · split
    · rfl
    · show ((l.seen now rs).marked now _).pause = l.pause
      unfold Lp.marked; split <;> rfl
theorem lookL_looked {l : Lp} {now sec have0 : Int} {rs : List Rd} {busy : Bool} (h : lookOk l now sec have0 rs.length = true) : (lookL l now sec have0 rs busy).looked = true := by
  unfold lookL
  rw [if_neg (by rw [h]; simp)]
  split
  · rfl
  · show ((l.seen now rs).marked now _).looked = true
    unfold Lp.marked; split <;> rfl
section
variable {p : Pln} {m : Wo} {j : Nat}
theorem on_l (m : Wo) : m.on.l = m.l ∧ m.on.now = m.now ∧ m.on.target = m.target ∧ m.on.fails = m.fails ∧ m.on.q = m.q ∧ m.on.t = m.t := ⟨rfl, rfl, rfl, rfl, rfl, rfl⟩
theorem on_live (m : Wo) : Tide.liveN m.on.f = Tide.liveN m.f :=
  onN_inv (most := m.most) (fun _ f => Tide.liveN f = Tide.liveN m.f) (fun b f hP _ => by rw [Tide.live_give]; exact hP) m.b.length m.b m.f rfl
theorem bds_on (h : Bds p m) : Bds p m.on := ⟨h.plan, h.paus, by rw [on_live]; exact h.live, h.top, h.bot, h.first, h.tn⟩
/-- what a look tells, of a world without a pause -/
theorem told_says (h : m.ok j) (hp : m.l.pause = -1) : m.l.p.mn ≤ m.told ∧ m.told ≤ m.l.p.mx ∧ (m.busy = true ∨ Failing m.l.p.trigs m.reads → 1 ≤ m.told) :=
  bounds_says h.lp (look_may h) (by omega)
theorem scale_live (h : m.ok j) (hp : m.l.pause = -1) : Tide.liveN (Tide.scaleLst m.f m.fl m.told) = m.told := by
  obtain ⟨h1, h2, _⟩ := told_says h hp
  have hP := planE_ok h.lp.plan
  have hmn := hP.mn
  have hmx := hP.mx
  exact (h.crew.scale (by have := h.most0; omega) m.told).2.2.1 (by unfold Tide.scaleErr; rw [if_neg (by omega)])
theorem bds_look (h : m.ok j) (hb : Bds p m) (hn : 0 < m.now) : Bds p m.look := by
  obtain ⟨h1, h2, _⟩ := told_says h hb.paus
  have hl := scale_live h hb.paus
  have hmn := (planE_ok h.lp.plan).mn
  rw [hb.plan] at h1 h2 hmn
  exact ⟨(lookL_p _ _ _ _ _ _).trans hb.plan, (lookL_pause' _ _ _ _ _ _).trans hb.paus, by show Tide.liveN (Tide.scaleLst _ _ _) ≤ _; omega, h2, fun _ => h1, fun h0 => by have h0 : m.now ≤ 0 := h0; omega, by show 0 ≤ m.told; omega⟩
theorem bds_tick (h : m.ok j) (hn : m.now < 1099511627776) (hb : Bds p m) : Bds p m.tick := by
  have hl := ok_late h hn
  have h0 := h.now0
  have hn1 : m.late.now = m.now + 1 := rfl
  refine bds_on ?_
  unfold Wo.seen
  split
  · have hb1 : Bds p { m.late with now := m.late.now } ∨ True := .inr trivial
    obtain ⟨h1, h2, _⟩ := told_says (m := m.late) hl hb.paus
    have hls := scale_live (m := m.late) hl hb.paus
    have hmn := (planE_ok h.lp.plan).mn
    have e : m.late.l.p = p := hb.plan
    rw [e] at h1 h2
    rw [hb.plan] at hmn
    exact ⟨(lookL_p _ _ _ _ _ _).trans hb.plan, (lookL_pause' _ _ _ _ _ _).trans hb.paus, by show Tide.liveN (Tide.scaleLst _ _ _) ≤ _; omega, h2, fun _ => h1, fun h0 => by have h0 : m.late.now ≤ 0 := h0; omega, by show 0 ≤ m.late.told; omega⟩
  · rename_i hd
    have hlk : m.l.looked = true := by
      cases hq : m.l.looked
      · exfalso; apply hd
        show dueB m.l _ = true
        unfold dueB; rw [hq]; rfl
      · rfl
    have hpos : 0 < m.now := by
      rcases Int.lt_or_le 0 m.now with c | c
      · exact c
      · have := hb.first c; rw [this] at hlk; cases hlk
    exact ⟨hb.plan, hb.paus, hb.live, hb.top, fun _ => hb.bot hpos, fun h0 => by have h0 : m.now + 1 ≤ 0 := h0; omega, hb.tn⟩
theorem bds_ticks (h : m.ok j) (hb : Bds p m) : ∀ n : Nat, m.now + n ≤ 1099511627776 → Bds p (ticksN n m)
  | 0, _ => hb
  | n + 1, hn => bds_tick (ok_ticks h n (by omega)) (by rw [ticks_now]; omega) (bds_ticks h hb n (by omega))
theorem bds_do (h : m.ok j) (hb : Bds p m) (k a n : Int) (hk : k ≠ 13) : Bds p (doW m k a n) := by
  refine doW_elim (fun x => Bds p x) hb (fun _ he => ?_) (fun _ => ?_) (fun _ => ?_) (fun _ => ?_) (fun _ => ?_) (fun _ => ?_) (fun _ _ => ?_) (fun _ => ?_) (fun _ _ => ?_) (fun _ _ => ?_) (fun _ _ => ?_) (fun _ _ => ?_) (fun e => absurd e hk)
  · obtain ⟨h1, h2, h3⟩ := tickE_ok he
    exact bds_ticks h hb n.toNat (by omega)
  · exact ⟨hb.plan, hb.paus, hb.live, hb.top, hb.bot, hb.first, hb.tn⟩
  · exact ⟨hb.plan, hb.paus, hb.live, hb.top, hb.bot, hb.first, hb.tn⟩
  · exact ⟨hb.plan, hb.paus, hb.live, hb.top, hb.bot, hb.first, hb.tn⟩
  · exact ⟨hb.plan, hb.paus, hb.live, hb.top, hb.bot, hb.first, hb.tn⟩
  · exact ⟨hb.plan, hb.paus, hb.live, hb.top, hb.bot, hb.first, hb.tn⟩
  · exact ⟨hb.plan, hb.paus, hb.live, hb.top, hb.bot, hb.first, hb.tn⟩
  · exact ⟨hb.plan, hb.paus, by show Tide.liveN (Tide.turnLst _ _ _ _) ≤ _; rw [Tide.live_turn _ _ _ _ (by omega) (by omega)]; exact hb.live, hb.top, hb.bot, hb.first, hb.tn⟩
  · exact bds_on ⟨hb.plan, hb.paus, by show Tide.liveN (Tide.turnLst _ _ _ _) ≤ _; rw [Tide.live_turn _ _ _ _ (by omega) (by omega)]; exact hb.live, hb.top, hb.bot, hb.first, hb.tn⟩
  · exact bds_on ⟨hb.plan, hb.paus, Int.le_trans (Tide.live_crash _ _) hb.live, hb.top, hb.bot, hb.first, hb.tn⟩
  · exact bds_on ⟨hb.plan, hb.paus, hb.live, hb.top, hb.bot, hb.first, hb.tn⟩
  · exact bds_on (m := doneW m n) ⟨hb.plan, hb.paus, Int.le_trans (Tide.live_podDone _ _) hb.live, hb.top, hb.bot, hb.first, hb.tn⟩
theorem bds_new {parts most sec : Int} (hE : planE p = 0) : Bds p (newWo p parts most sec) := by
  have hP := planE_ok hE
  have hmx := hP.mx
  exact ⟨rfl, rfl, by show Tide.liveN [] ≤ _; have : Tide.liveN [] = 0 := rfl; omega, by show (0 : Int) ≤ _; omega, fun h => by have h : (0 : Int) < 0 := h; omega, fun _ => rfl, Int.le_refl _⟩
end
/-! TopZero -/
def stillR (now : Int) (r : Tide.Req) : Bool := r.fate == 2 || (r.fate == 1 && decide (now < r.till))
theorem busy_late {m : Wo} (h0 : 0 ≤ m.now) (h1 : m.now < 1099511627776) (hb : m.b.any (stillR (m.now + 1)) = true) : m.late.busy = true := by
  rw [List.any_eq_true] at hb
  obtain ⟨r, hr, hs⟩ := hb
  have c1 := Tide.countF_nn (-1) 1 m.late.b
  have c2 := Tide.countF_nn (-1) 2 m.late.b
  have hmem : Tide.setF (Tide.isLate (m.now + 1)) 4 r ∈ m.late.b := by
    show _ ∈ Tide.lateLst m.b (m.now + 1)
    unfold Tide.lateLst
    rw [if_pos (show Tide.timeOk (m.now + 1) = true by unfold Tide.timeOk; simp; omega)]
    exact List.mem_map_of_mem hr
  have e : Tide.setF (Tide.isLate (m.now + 1)) 4 r = r := by
    unfold Tide.setF
    rw [if_neg]
    unfold Tide.isLate
    unfold stillR at hs
    intro h
    rw [Bool.and_eq_true] at h
    have f1 : r.fate = 1 := by simpa using h.1
    rw [f1] at hs
    have f2 : r.till ≤ m.now + 1 := by simpa using h.2
    have f3 : m.now + 1 < r.till := by simpa using hs
    omega
  rw [e] at hmem
  unfold Wo.busy
  rw [decide_eq_true_eq]
  unfold stillR at hs
  rw [Bool.or_eq_true] at hs
  rcases hs with hs | hs
  · have : 0 < m.late.b.countP (Tide.hasF (-1) 2) := List.countP_pos_iff.2 ⟨r, hmem, by unfold Tide.hasF; rw [hs]; rfl⟩
    unfold Tide.countF at *; omega
  · rw [Bool.and_eq_true] at hs
    have : 0 < m.late.b.countP (Tide.hasF (-1) 1) := List.countP_pos_iff.2 ⟨r, hmem, by unfold Tide.hasF; rw [hs.1]; rfl⟩
    unfold Tide.countF at *; omega
/-- a trigger that is no span fails -/
def FailsAt (m : Wo) (i : Nat) : Prop := ∃ t, m.l.p.trigs[i]? = some t ∧ t.kind ≠ 3 ∧ m.fails[i]? = some true
theorem reads_at {tp : List (Int × Int)} {q : List Tide.Msg} {now : Int} : ∀ {ts : List Trg} {bs : List Bool} {k : Nat} {t : Trg} {x : Bool}, ts[k]? = some t → bs[k]? = some x → (readsOf tp q now ts bs)[k]? = some (readOf t x tp q now)
  | [], _, k, t, x, h, _ => by simp at h
  | _ :: _, [], k, t, x, _, h => by simp at h
  | t :: ts, b :: bs, 0, _, _, h1, h2 => by simp at h1 h2; subst h1; subst h2; rfl
  | t :: ts, b :: bs, k + 1, _, _, h1, h2 => reads_at (ts := ts) (bs := bs) (k := k) (by simpa using h1) (by simpa using h2)
theorem zero_says {m : Wo} {j : Nat} {p : Pln} (h : m.ok j) (hn : m.now < 1099511627776) (hb : Bds p m) (hw : 0 < m.target) (hz : m.tick.target = 0) : m.b.any (stillR (m.now + 1)) = false ∧ (∀ i, ¬ FailsAt m i) ∧ p.mn ≤ 0 := by
  have hl := ok_late h hn
  have e : m.tick.target = m.late.seen.target := rfl
  rw [e] at hz
  unfold Wo.seen at hz
  split at hz
  · have hz : m.late.told = 0 := hz
    obtain ⟨h1, _, h3⟩ := told_says (m := m.late) hl hb.paus
    have e2 : m.late.l.p = p := hb.plan
    rw [e2] at h1 h3
    refine ⟨?_, fun i hi => ?_, by omega⟩
    · cases hq : m.b.any (stillR (m.now + 1))
      · rfl
      · have := h3 (.inl (busy_late h.now0 hn hq)); omega
    · obtain ⟨t, t1, t2, t3⟩ := hi
      have := h3 (.inr ⟨i, t, _, by rw [← hb.plan]; exact t1, reads_at (ts := m.late.l.p.trigs) (bs := m.late.fails) t1 t3, rfl, t2⟩)
      omega
  · have hz : m.target = 0 := hz
    omega
end Go.Proofs.YtlfaogkdghnmcaaGreat
