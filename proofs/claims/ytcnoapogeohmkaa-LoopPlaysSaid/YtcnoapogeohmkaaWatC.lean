/- The reference's loop (Watch) in memory; the contract of Due. -/
import Derived.Test.YtcnoapogeohmkaaZLopB
set_option linter.unusedVariables false
set_option linter.unusedSimpArgs false
namespace Go.Proofs.Ytcnoapogeohmkaa
open Go.RowKit
set_option linter.unusedVariables false
/-- a list of triggers to read, in blocks of R -/
def TrgIn (R : Nat → Prop) (w : World) (v : Value) (ts : List Trg) : Prop := ∃ A cap, v = .slice A ts.length cap ∧ (0 < ts.length → ∃ b off, A = some ⟨b, off, none⟩ ∧ R b ∧ b < w.heap.size ∧ ∀ (i : Nat) (t : Trg) (j : Nat) (u : Value), ts[i]? = some t → (Trg.enc t)[j]? = some u → w.cell? ⟨b, off + i * 17 + j, none⟩ = some u)
theorem TrgIn.chg {R C : Nat → Prop} {w w' : World} {v : Value} {ts : List Trg} (h : TrgIn R w v ts) (hc : Tide.Chg C w w') (hs : ∀ b, R b → ¬ C b) : TrgIn R w' v ts := by
  obtain ⟨A, cap, e, hA⟩ := h
  refine ⟨A, cap, e, fun h0 => ?_⟩
  obtain ⟨b, off, e1, hR, hlt, h2⟩ := hA h0
  exact ⟨b, off, e1, hR, Nat.lt_of_lt_of_le hlt hc.size, fun i r j u h3 h4 => (hc.cell hlt (hs b hR) _).trans (h2 i r j u h3 h4)⟩
theorem TrgIn.of {w : World} {v : Value} {ts : List Trg} (h : Tide.ListIn w 17 Trg.enc v ts) : TrgIn (fun b => b < w.heap.size) w v ts := by
  obtain ⟨A, cap, e, hA⟩ := h
  refine ⟨A, cap, e, fun h0 => ?_⟩
  obtain ⟨b, off, e1, hlt, h2⟩ := hA h0
  exact ⟨b, off, e1, hlt, hlt, fun i r j u h3 h4 => h2 i r j u h3 h4⟩
theorem TrgIn.at {R : Nat → Prop} {w : World} {A : Option Addr} {n cap : Nat} {ts : List Trg} (h : TrgIn R w (.slice A n cap) ts) {k : Nat} {t : Trg} (hk : ts[k]? = some t) :
    n = ts.length ∧ ∃ b off, A = some ⟨b, off, none⟩ ∧ b < w.heap.size ∧ ∀ j u, (Trg.enc t)[j]? = some u → w.cell? ⟨b, off + k * 17 + j, none⟩ = some u := by
  obtain ⟨A1, c1, e, hA⟩ := h
  cases e
  obtain ⟨b, off, e1, _, hlt, h2⟩ := hA (by have := Tide.get_lt hk; omega)
  exact ⟨rfl, b, off, e1, hlt, fun j u hj => h2 k t j u hk hj⟩
/-- the reference's loop in memory: RT the blocks of its triggers, which it does not write -/
structure WatAt (RT S1 S2 : Nat → Prop) (w : World) (g gs : Nat) (vt vf vw vm : Value) (l : Lp) : Prop where
  head : Tide.At w g 54 (lopCells l gs vt vf)
  trg : TrgIn RT w vt l.p.trigs
  fls : Tide.OwnRow S1 w 3 1 vf l.fails.length (l.fails.map (Value.int .i64))
  st : StbAt 103 113 S2 w gs l.s vw vm
  own : S1 g
  dis : ∀ b, S1 b → ¬ S2 b
  lim : ∀ b, S1 b → b < w.heap.size
  rt : ∀ b, RT b → ¬ S1 b ∧ ¬ S2 b
section
variable {RT S1 S2 C : Nat → Prop} {w w' : World} {g gs : Nat} {vt vf vw vm : Value} {l : Lp}
theorem WatAt.chg (h : WatAt RT S1 S2 w g gs vt vf vw vm l) (hc : Tide.Chg C w w') (h0 : ∀ b, RT b → ¬ C b) (h1 : ∀ b, S1 b → ¬ C b) (h2 : ∀ b, S2 b → ¬ C b) : WatAt RT S1 S2 w' g gs vt vf vw vm l :=
  ⟨h.head.chg hc (h1 g h.own), h.trg.chg hc h0, h.fls.chg hc h1, h.st.chg hc h2, h.own, h.dis, fun b hb => Nat.lt_of_lt_of_le (h.lim b hb) hc.size, h.rt⟩
theorem WatAt.below (h : WatAt RT S1 S2 w g gs vt vf vw vm l) (hb : Below w.heap.size w w') : WatAt RT S1 S2 w' g gs vt vf vw vm l :=
  h.chg (C := fun _ => False) (Tide.Chg.of_below hb (Nat.le_refl _)) (fun _ _ h => h) (fun _ _ h => h) (fun _ _ h => h)
theorem WatAt.alloc (h : WatAt RT S1 S2 w g gs vt vf vw vm l) (o : Obj) : WatAt RT S1 S2 (w.alloc o) g gs vt vf vw vm l := h.below ((Below.refl _ _).alloc (Nat.le_refl _) o)
theorem WatAt.drew (h : WatAt RT S1 S2 w g gs vt vf vw vm l) : WatAt RT S1 S2 w.drew g gs vt vf vw vm l := h.below (Below.refl _ _).drew
theorem WatAt.put (h : WatAt RT S1 S2 w g gs vt vf vw vm l) {l' : Lp} {i : Nat} {u : Value} (hp : l'.p.trigs = l.p.trigs) (hf : l'.fails = l.fails) (hs : l'.s = l.s)
    (hc : (lopCells l gs vt vf).setIfInBounds i u = lopCells l' gs vt vf) : WatAt RT S1 S2 (w.setCell ⟨g, i, none⟩ u) g gs vt vf vw vm l' := by
  have hch := (Tide.Chg.refl (fun b => b = g) w).put (p := ⟨g, i, none⟩) (.inl rfl) u
  refine ⟨?_, ?_, ?_, ?_, h.own, h.dis, fun b hb => by rw [Tide.size_put]; exact h.lim b hb, h.rt⟩
  · have := Tide.At.put h.head i u
    rw [← hc]; exact this
  · rw [hp]; exact h.trg.chg hch (fun b hb e => (h.rt b hb).1 (e ▸ h.own))
  · rw [hf]; exact h.fls.aside (h.fls.apartAt h.head (by decide)) u
  · rw [hs]; exact h.st.chg hch (fun b hb e => h.dis g h.own (e ▸ hb))
theorem WatAt.fail (h : WatAt RT S1 S2 w g gs vt vf vw vm l) {k bf cf : Nat} {x : Int} (hv : vf = .slice (some ⟨bf, 0, none⟩) l.fails.length cf) (hk : k < l.fails.length) :
    WatAt RT S1 S2 (w.setCell ⟨bf, k, none⟩ (.int .i64 x)) g gs vt vf vw vm { l with fails := l.fails.set k x } := by
  have hb : S1 bf := (h.fls.block bf (by rw [hv]; rfl)).1
  have hne : g ≠ bf := fun e => (h.fls.apartAt h.head (by decide) bf (by rw [hv]; rfl)) e.symm
  have hch := (Tide.Chg.refl (fun b => b = bf) w).put (p := ⟨bf, k, none⟩) (.inl rfl) (.int .i64 x)
  refine ⟨h.head.other hne _, h.trg.chg hch (fun b hb2 e => (h.rt b hb2).1 (e ▸ hb)), ?_, h.st.chg hch (fun b hb2 e => h.dis bf hb (e ▸ hb2)), h.own, h.dis, fun b hb => by rw [Tide.size_put]; exact h.lim b hb, h.rt⟩
  subst hv
  have := Tide.OwnRow.put (i := k) h.fls (by rw [List.length_map]; exact hk) (.int .i64 x)
  show Tide.OwnRow S1 _ _ 1 _ (l.fails.set k x).length ((l.fails.set k x).map (Value.int .i64))
  rw [List.length_set, List.map_set]
  exact this
/-- what turns, and the Stable's blocks besides; those from w0 on hold no trigger -/
theorem WatAt.up (h : WatAt RT S1 S2 w g gs vt vf vw vm l) {w0 : World} (h0 : ∀ b, S1 b → b < w0.heap.size) (hr : ∀ b, RT b → b < w0.heap.size) : WatAt RT S1 (Tide.Plus S2 w0 w) w g gs vt vf vw vm l :=
  ⟨h.head, h.trg, h.fls, h.st.up, h.own, fun b hb h2 => by
    rcases h2 with h2 | h2
    · exact h.dis b hb h2
    · have := h0 b hb; omega, h.lim, fun b hb => ⟨(h.rt b hb).1, fun h2 => by
      rcases h2 with h2 | h2
      · exact (h.rt b hb).2 h2
      · have := hr b hb; omega⟩⟩
end
set_option maxRecDepth 100000 in
set_option maxHeartbeats 3200000 in
theorem watDue (g gs : Nat) (vt vf : Value) (l : Lp) (now : Int) (w : World) (h : Tide.At w g 54 (lopCells l gs vt vf)) (n0 : -9223372036854775808 ≤ now) (n1 : now ≤ 9223372036854775807) (l0 : 0 ≤ l.last) (l1 : l.last ≤ 1099511627776) (p0 : 1 ≤ l.p.poll) :
    Calls Try.prog 20 #[.pointer (some ⟨g, 0, none⟩), .int .i64 now] w fun e w' => e = .returned (.bool (dueB l now)) ∧ Below w.heap.size w w' := by
  have x3 : w.cell? ⟨g, 3, none⟩ = some (.int .i64 l.p.poll) := h.here (i := 3) rfl
  have x20 : w.cell? ⟨g, 20, none⟩ = some (.bool l.looked) := h.here (i := 20) rfl
  have x21 : w.cell? ⟨g, 21, none⟩ = some (.int .i64 l.last) := h.here (i := 21) rfl
  have HV := Lib.hid (show dueB l now = (!l.looked || (decide (l.last ≤ now) && decide (l.p.poll ≤ now - l.last))) from rfl)
  have HB := Lib.hid (fun n => below_drewN (Below.refl w.heap.size w) n)
  generalize dueB l now = R at HV ⊢
  generalize l.looked = lk at x20 HV
  generalize l.last = la at x21 HV l0 l1
  generalize l.p.poll = po at x3 HV p0
  clear h
  cases lk
  case false =>
    have d0 : (!false) = true := rfl
    go_enter Try.func20, Try.ntmps20
    go_wp2_with fail
    go_quiet (fail)
    go_wp2_with fail
    go_ret
    exact ⟨by rw [HV.out] <;> rfl, HB.out _⟩
  case true =>
    by_cases h1 : la < now
    · have q1 : IntKind.i64.wrap (now - la) = now - la := IntWalk.i64_in _ (by omega)
      have HF := Lib.hid (show R = decide (po ≤ now - la) by rw [HV.out, decide_eq_true (show la ≤ now by omega)]; rfl)
      clear HV
      go_enter Try.func20, Try.ntmps20
      go_wp2_with fail
      go_quiet (fail)
      go_wp2_with fail
      go_ret
      exact ⟨by rw [HF.out] <;> rfl, HB.out _⟩
    · have h2 : now ≤ la := by omega
      have HF := Lib.hid (show R = false by
        rw [HV.out]
        by_cases h3 : la ≤ now
        · rw [decide_eq_true h3, decide_eq_false (show ¬ po ≤ now - la by omega)]; rfl
        · rw [decide_eq_false h3]; rfl)
      have d1 : decide (la < now) = false := decide_eq_false h1
      clear HV h1
      go_enter Try.func20, Try.ntmps20
      go_wp2_with fail
      go_quiet (fail)
      go_wp2_with fail
      go_ret
      exact ⟨by rw [HF.out] <;> rfl, HB.out _⟩
end Go.Proofs.Ytcnoapogeohmkaa
