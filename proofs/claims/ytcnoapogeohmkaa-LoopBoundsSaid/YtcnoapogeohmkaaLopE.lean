/- Plain facts of a loop in memory; the contracts of Pause and of the closure of Look. -/
import Derived.Test.YtcnoapogeohmkaaLopC
import Derived.Test.YtcnoapogeohmkaaStbF
import Derived.Deep.RegionHeld3
set_option linter.unusedVariables false
set_option linter.unusedSimpArgs false
namespace Go.Proofs.Ytcnoapogeohmkaa
open Go.RowKit
set_option linter.unusedVariables false
/-- the cells of a loop -/
def lopCells (l : Lp) (gs : Nat) (vt vf : Value) : Array Value := #[.string l.p.name, .int .i64 l.p.mn, .int .i64 l.p.mx, .int .i64 l.p.poll, .int .i64 l.p.cool, .int .i64 l.p.tol, .int .i64 l.p.back, .int .i64 l.p.after, .int .i64 l.p.shift, .int .i64 l.p.up.win, .int .i64 l.p.up.pods, .int .i64 l.p.up.pct, .int .i64 l.p.up.per, .int .i64 l.p.down.win, .int .i64 l.p.down.pods, .int .i64 l.p.down.pct, .int .i64 l.p.down.per, vt, .pointer (some ⟨gs, 0, none⟩), vf, .bool l.looked, .int .i64 l.last, .int .i64 l.needed, .int .i64 l.pause]
section
variable {T TS TM : TypeId} {S1 S2 C : Nat → Prop} {w w' : World} {g gs : Nat} {vt vf vw vm : Value} {l : Lp}
theorem LopAt.put (h : LopAt T TS TM S1 S2 w g gs vt vf vw vm l) (hT1 : 65 ≠ T) (hT2 : 3 ≠ T) {l' : Lp} {i : Nat} {u : Value} (hp : l'.p.trigs = l.p.trigs) (hf : l'.fails = l.fails) (hs : l'.s = l.s)
    (hc : (lopCells l gs vt vf).setIfInBounds i u = lopCells l' gs vt vf) : LopAt T TS TM S1 S2 (w.setCell ⟨g, i, none⟩ u) g gs vt vf vw vm l' := by
  refine ⟨?_, ?_, ?_, ?_, h.own, h.dis, fun b hb => by rw [Tide.size_put]; exact h.lim b hb⟩
  · have := Tide.At.put h.head i u
    show Tide.At _ g T (lopCells l' gs vt vf)
    rw [← hc]; exact this
  · rw [hp]; exact h.trg.aside (h.trg.apartAt h.head hT1) u
  · rw [hf]; exact h.fls.aside (h.fls.apartAt h.head hT2) u
  · rw [hs]; exact h.st.chg ((Tide.Chg.refl (fun b => b = g) w).put (p := ⟨g, i, none⟩) (.inl rfl) u) (fun b hb e => h.dis g h.own (e ▸ hb))
theorem LopAt.fail (h : LopAt T TS TM S1 S2 w g gs vt vf vw vm l) (hT2 : 3 ≠ T) {k bf cf : Nat} {x : Int} (hv : vf = .slice (some ⟨bf, 0, none⟩) l.fails.length cf) (hk : k < l.fails.length) :
    LopAt T TS TM S1 S2 (w.setCell ⟨bf, k, none⟩ (.int .i64 x)) g gs vt vf vw vm { l with fails := l.fails.set k x } := by
  have hb : S1 bf := (h.fls.block bf (by rw [hv]; rfl)).1
  have hne : g ≠ bf := fun e => (h.fls.apartAt h.head hT2 bf (by rw [hv]; rfl)) e.symm
  have hbt : ∀ b, vt.ownBlock = some b → b ≠ bf := by
    intro b hb2 e
    subst e
    rcases h.trg.2 with ⟨rfl, _⟩ | ⟨b1, c1, rfl, _, _, _, r1⟩
    · simp [Value.ownBlock] at hb2
    · simp [Value.ownBlock] at hb2; subst hb2
      obtain ⟨b2, c2, e2, _, _, _, r2⟩ := h.fls.form (by omega)
      rw [hv] at e2; cases e2
      exact r1.apart r2 (by decide) rfl
  refine ⟨h.head.other hne _, h.trg.aside hbt _, ?_, h.st.chg ((Tide.Chg.refl (fun b => b = bf) w).put (p := ⟨bf, k, none⟩) (.inl rfl) _) (fun b hb2 e => h.dis bf hb (e ▸ hb2)), h.own, h.dis, fun b hb => by rw [Tide.size_put]; exact h.lim b hb⟩
  subst hv
  have := Tide.OwnRow.put (i := k) h.fls (by rw [List.length_map]; exact hk) (.int .i64 x)
  show Tide.OwnRow S1 _ _ 1 _ (l.fails.set k x).length ((l.fails.set k x).map (Value.int .i64))
  rw [List.length_set, List.map_set]
  exact this
/-- what turns, and the Stable's blocks besides -/
theorem LopAt.up (h : LopAt T TS TM S1 S2 w g gs vt vf vw vm l) {w0 : World} (h0 : ∀ b, S1 b → b < w0.heap.size) : LopAt T TS TM S1 (Tide.Plus S2 w0 w) w g gs vt vf vw vm l :=
  ⟨h.head, h.trg, h.fls, h.st.up, h.own, fun b hb h2 => by
    rcases h2 with h2 | h2
    · exact h.dis b hb h2
    · have := h0 b hb; omega, h.lim⟩
end
def PausePost (T TS TM : TypeId) (S1 S2 : Nat → Prop) (w : World) (g gs : Nat) (vt vf vw vm : Value) (l : Lp) (n : Int) (e : Ending) (w' : World) : Prop :=
  e = .returned (.int .i64 (pauseE n)) ∧ LopAt T TS TM S1 S2 w' g gs vt vf vw vm (pauseL l n) ∧ Tide.Chg S1 w w'
set_option maxRecDepth 100000 in
set_option maxHeartbeats 1600000 in
theorem lopPause (S1 S2 : Nat → Prop) (g gs : Nat) (vt vf vw vm : Value) (l : Lp) (n : Int) (w : World) (h : LopAt 73 94 96 S1 S2 w g gs vt vf vw vm l) :
    Calls Try.prog 18 #[.pointer (some ⟨g, 0, none⟩), .int .i64 n] w (PausePost 73 94 96 S1 S2 w g gs vt vf vw vm l n) := by
  have x23 := h.head.here (i := 23) rfl
  have p23 := h.head.soft 23
  by_cases h1 : n < -1
  · have HF := Lib.hid (show PausePost 73 94 96 S1 S2 w g gs vt vf vw vm l n (.returned (.int .i64 1)) w from ⟨by unfold pauseE; rw [if_pos (.inl h1)], by unfold pauseL; rw [if_pos (.inl h1)]; exact h, Tide.Chg.refl _ _⟩)
    clear h
    go_enter Try.func18, Try.ntmps18
    go_wp2_with fail
    go_ret
    exact HF.out
  by_cases h2 : 50 < n
  · have HF := Lib.hid (show PausePost 73 94 96 S1 S2 w g gs vt vf vw vm l n (.returned (.int .i64 1)) w from ⟨by unfold pauseE; rw [if_pos (.inr h2)], by unfold pauseL; rw [if_pos (.inr h2)]; exact h, Tide.Chg.refl _ _⟩)
    clear h
    go_enter Try.func18, Try.ntmps18
    go_wp2_with fail
    go_ret
    exact HF.out
  · have h3 : -1 ≤ n := by omega
    have h4 : n ≤ 50 := by omega
    have HF := Lib.hid (fun w' (hw : w.setCell ⟨g, 23, none⟩ (.int .i64 n) = w') => (show PausePost 73 94 96 S1 S2 w g gs vt vf vw vm l n (.returned (.int .i64 0)) w' from hw ▸ ⟨by unfold pauseE; rw [if_neg (by omega)], by unfold pauseL; rw [if_neg (by omega)]; exact h.put (by decide) (by decide) rfl rfl rfl rfl, (Tide.Chg.refl _ _).put (.inl h.own) _⟩))
    clear h h1 h2
    go_enter Try.func18, Try.ntmps18
    go_wp2_with fail
    go_ret
    exact HF.out _ rfl
set_option maxRecDepth 100000 in
set_option maxHeartbeats 1600000 in
/-- the closure of Look: between what is least and what is most -/
theorem lopClip (n low mx : Int) (bl bx g : Nat) (w : World) (hl : w.cell? ⟨bl, 0, none⟩ = some (.int .i64 low)) (hx : w.cell? ⟨bx, 0, none⟩ = some (.pointer (some ⟨g, 0, none⟩))) (hm : w.cell? ⟨g, 2, none⟩ = some (.int .i64 mx)) :
    Calls Try.prog 31 #[.int .i64 n, .pointer (some ⟨bl, 0, none⟩), .pointer (some ⟨bx, 0, none⟩)] w fun e w' => e = .returned (.int .i64 (clipOf low mx n)) ∧ Below w.heap.size w w' := by
  have HF := Lib.hid (fun x (hx : x = min (max n low) mx) (w' : World) (hb : Below w.heap.size w w') => (⟨by rw [hx]; rfl, hb⟩ : (Ending.returned (.int .i64 x) = .returned (.int .i64 (clipOf low mx n)) ∧ Below w.heap.size w w')))
  go_enter Try.func31, Try.ntmps31
  go_wp2_with fail
  go_quiet (fail)
  all_goals
    go_wp2_with fail
    all_goals
      go_ret
      exact HF.out _ (by omega) _ (below_drewN (Below.refl _ _) _)
end Go.Proofs.Ytcnoapogeohmkaa
