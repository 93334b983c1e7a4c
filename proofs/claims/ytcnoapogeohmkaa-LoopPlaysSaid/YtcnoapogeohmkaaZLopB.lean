/- Plain facts of a loop in memory; the contracts of Pause and of the closure of Look. Readings in memory; Look with a bad argument; the counting of failures, as lists. -/
import Derived.Test.YtcnoapogeohmkaaZLopA
import Derived.Test.YtcnoapogeohmkaaZStb
import Derived.Deep.RegionHeld3
import Derived.Test.YtcnoapogeohmkaaNeedC

set_option linter.unusedVariables false
set_option linter.unusedSimpArgs false
namespace Go.Proofs.Ytcnoapogeohmkaa
open Go.RowKit
set_option linter.unusedVariables false
/-- the cells of a loop -/
def lopCells (l : Lp) (gs : Nat) (vt vf : Value) : Array Value := #[.string l.p.name, .int .i64 l.p.mn, .int .i64 l.p.mx, .int .i64 l.p.poll, .int .i64 l.p.cool, .int .i64 l.p.tol, .int .i64 l.p.back, .int .i64 l.p.after, .int .i64 l.p.shift, .int .i64 l.p.up.win, .int .i64 l.p.up.pods, .int .i64 l.p.up.pct, .int .i64 l.p.up.per, .int .i64 l.p.down.win, .int .i64 l.p.down.pods, .int .i64 l.p.down.pct, .int .i64 l.p.down.per, vt, .pointer (some ⟨gs, 0, none⟩), vf, .bool l.looked, .int .i64 l.last, .int .i64 l.needed, .int .i64 l.pause]
section
variable {T TS TM : TypeId} {S1 S2 C : Nat → Prop} {w w' : World} {g gs : Nat} {vt vf vw vm : Value} {l : Lp}
theorem LopAt.put (h : LopAt T TS TM S1 S2 w g gs vt vf vw vm l) (hT1 : 65 ≠ T) (hT2 : 3 ≠ T) {l' : Lp} {i : Nat} {u : Value} (hp : l'.p.trigs = l.p.trigs) (hf : l'.fails = l.fails) (hs : l'.s = l.s)
    (hc : (lopCells l gs vt vf).setIfInBounds i u = lopCells l' gs vt vf) : LopAt T TS TM S1 S2 (w.setCell ⟨g, i, none⟩ u) g gs vt vf vw vm l' := by
  refine ⟨?_, ?_, ?_, ?_, h.own, h.dis, fun b hb => by rw [Tide.size_put]; exact h.lim b hb⟩
  · have := Tide.At.put h.head i u
    show Tide.At _ g T (lopCells l' gs vt vf)
    rw [← hc]; exact this
  · rw [hp]; exact h.trg.aside (h.trg.apartAt h.head hT1) u
  · rw [hf]; exact h.fls.aside (h.fls.apartAt h.head hT2) u
  · rw [hs]; exact h.st.chg ((Tide.Chg.refl (fun b => b = g) w).put (p := ⟨g, i, none⟩) (.inl rfl) u) (fun b hb e => h.dis g h.own (e ▸ hb))
theorem LopAt.fail (h : LopAt T TS TM S1 S2 w g gs vt vf vw vm l) (hT2 : 3 ≠ T) {k bf cf : Nat} {x : Int} (hv : vf = .slice (some ⟨bf, 0, none⟩) l.fails.length cf) (hk : k < l.fails.length) :
    LopAt T TS TM S1 S2 (w.setCell ⟨bf, k, none⟩ (.int .i64 x)) g gs vt vf vw vm { l with fails := l.fails.set k x } := by
  have hb : S1 bf := (h.fls.block bf (by rw [hv]; rfl)).1
  have hne : g ≠ bf := fun e => (h.fls.apartAt h.head hT2 bf (by rw [hv]; rfl)) e.symm
  have hbt : ∀ b, vt.ownBlock = some b → b ≠ bf := by
    intro b hb2 e
    subst e
    rcases h.trg.2 with ⟨rfl, _⟩ | ⟨b1, c1, rfl, _, _, _, r1⟩
    · simp [Value.ownBlock] at hb2
    · simp [Value.ownBlock] at hb2; subst hb2
      obtain ⟨b2, c2, e2, _, _, _, r2⟩ := h.fls.form (by omega)
      rw [hv] at e2; cases e2
      exact r1.apart r2 (by decide) rfl
  refine ⟨h.head.other hne _, h.trg.aside hbt _, ?_, h.st.chg ((Tide.Chg.refl (fun b => b = bf) w).put (p := ⟨bf, k, none⟩) (.inl rfl) _) (fun b hb2 e => h.dis bf hb (e ▸ hb2)), h.own, h.dis, fun b hb => by rw [Tide.size_put]; exact h.lim b hb⟩
  subst hv
  have := Tide.OwnRow.put (i := k) h.fls (by rw [List.length_map]; exact hk) (.int .i64 x)
  show Tide.OwnRow S1 _ _ 1 _ (l.fails.set k x).length ((l.fails.set k x).map (Value.int .i64))
  rw [List.length_set, List.map_set]
  exact this
/-- what turns, and the Stable's blocks besides -/
theorem LopAt.up (h : LopAt T TS TM S1 S2 w g gs vt vf vw vm l) {w0 : World} (h0 : ∀ b, S1 b → b < w0.heap.size) : LopAt T TS TM S1 (Tide.Plus S2 w0 w) w g gs vt vf vw vm l :=
  ⟨h.head, h.trg, h.fls, h.st.up, h.own, fun b hb h2 => by
    rcases h2 with h2 | h2
    · exact h.dis b hb h2
    · have := h0 b hb; omega, h.lim⟩
end
def PausePost (T TS TM : TypeId) (S1 S2 : Nat → Prop) (w : World) (g gs : Nat) (vt vf vw vm : Value) (l : Lp) (n : Int) (e : Ending) (w' : World) : Prop :=
  e = .returned (.int .i64 (pauseE n)) ∧ LopAt T TS TM S1 S2 w' g gs vt vf vw vm (pauseL l n) ∧ Tide.Chg S1 w w'
set_option maxRecDepth 100000 in
set_option maxHeartbeats 1600000 in
theorem lopPause (S1 S2 : Nat → Prop) (g gs : Nat) (vt vf vw vm : Value) (l : Lp) (n : Int) (w : World) (h : LopAt 73 94 96 S1 S2 w g gs vt vf vw vm l) :
    Calls Try.prog 18 #[.pointer (some ⟨g, 0, none⟩), .int .i64 n] w (PausePost 73 94 96 S1 S2 w g gs vt vf vw vm l n) := by
  have x23 := h.head.here (i := 23) rfl
  have p23 := h.head.soft 23
  by_cases h1 : n < -1
  · have HF := Lib.hid (show PausePost 73 94 96 S1 S2 w g gs vt vf vw vm l n (.returned (.int .i64 1)) w from ⟨by unfold pauseE; rw [if_pos (.inl h1)], by unfold pauseL; rw [if_pos (.inl h1)]; exact h, Tide.Chg.refl _ _⟩)
    clear h
    go_enter Try.func18, Try.ntmps18
    go_wp2_with fail
    go_ret
    exact HF.out
  by_cases h2 : 50 < n
  · have HF := Lib.hid (show PausePost 73 94 96 S1 S2 w g gs vt vf vw vm l n (.returned (.int .i64 1)) w from ⟨by unfold pauseE; rw [if_pos (.inr h2)], by unfold pauseL; rw [if_pos (.inr h2)]; exact h, Tide.Chg.refl _ _⟩)
    clear h
    go_enter Try.func18, Try.ntmps18
    go_wp2_with fail
    go_ret
    exact HF.out
  · have h3 : -1 ≤ n := by omega
    have h4 : n ≤ 50 := by omega
    have HF := Lib.hid (fun w' (hw : w.setCell ⟨g, 23, none⟩ (.int .i64 n) = w') => (show PausePost 73 94 96 S1 S2 w g gs vt vf vw vm l n (.returned (.int .i64 0)) w' from hw ▸ ⟨by unfold pauseE; rw [if_neg (by omega)], by unfold pauseL; rw [if_neg (by omega)]; exact h.put (by decide) (by decide) rfl rfl rfl rfl, (Tide.Chg.refl _ _).put (.inl h.own) _⟩))
    clear h h1 h2
    go_enter Try.func18, Try.ntmps18
    go_wp2_with fail
    go_ret
    exact HF.out _ rfl
set_option maxRecDepth 100000 in
set_option maxHeartbeats 1600000 in
/-- the closure of Look: between what is least and what is most -/
theorem lopClip (n low mx : Int) (bl bx g : Nat) (w : World) (hl : w.cell? ⟨bl, 0, none⟩ = some (.int .i64 low)) (hx : w.cell? ⟨bx, 0, none⟩ = some (.pointer (some ⟨g, 0, none⟩))) (hm : w.cell? ⟨g, 2, none⟩ = some (.int .i64 mx)) :
    Calls Try.prog 31 #[.int .i64 n, .pointer (some ⟨bl, 0, none⟩), .pointer (some ⟨bx, 0, none⟩)] w fun e w' => e = .returned (.int .i64 (clipOf low mx n)) ∧ Below w.heap.size w w' := by
  have HF := Lib.hid (fun x (hx : x = min (max n low) mx) (w' : World) (hb : Below w.heap.size w w') => (⟨by rw [hx]; rfl, hb⟩ : (Ending.returned (.int .i64 x) = .returned (.int .i64 (clipOf low mx n)) ∧ Below w.heap.size w w')))
  go_enter Try.func31, Try.ntmps31
  go_wp2_with fail
  go_quiet (fail)
  all_goals
    go_wp2_with fail
    all_goals
      go_ret
      exact HF.out _ (by omega) _ (below_drewN (Below.refl _ _) _)
end Go.Proofs.Ytcnoapogeohmkaa


namespace Go.Proofs.Ytcnoapogeohmkaa
open Go.RowKit
set_option linter.unusedVariables false
theorem _root_.Tide.Chg.cell {S : Nat → Prop} {w w' : World} (h : Tide.Chg S w w') {b : Nat} (hb : b < w.heap.size) (hs : ¬ S b) (o : Nat) : w'.cell? ⟨b, o, none⟩ = w.cell? ⟨b, o, none⟩ := by
  unfold World.cell?
  show (match w'.heap[b]? with | _ => _) = (match w.heap[b]? with | _ => _)
  rw [h.block b hb hs]
structure RdV where
  failed : Bool
  A : Option Addr
  cap : Nat
  xs : List Int
def RdV.enc (r : RdV) : List Value := [.bool r.failed, .slice r.A r.xs.length r.cap]
theorem RdV.enc_length (r : RdV) : r.enc.length = 2 := rfl
def RdV.rd (r : RdV) : Rd := ⟨r.failed, r.xs⟩
/-- numbers in blocks of R -/
def NumsOf (R : Nat → Prop) (w : World) (A : Option Addr) (xs : List Int) : Prop := 0 < xs.length → ∃ b off, A = some ⟨b, off, none⟩ ∧ R b ∧ b < w.heap.size ∧ ∀ i x, xs[i]? = some x → w.cell? ⟨b, off + i, none⟩ = some (.int .i64 x)
theorem NumsOf.in {R : Nat → Prop} {w : World} {A : Option Addr} {xs : List Int} (h : NumsOf R w A xs) : NumsIn w A xs := fun h0 => by
  obtain ⟨b, off, e, _, hlt, hc⟩ := h h0
  exact ⟨b, off, e, hlt, hc⟩
theorem NumsOf.chg {R C : Nat → Prop} {w w' : World} {A : Option Addr} {xs : List Int} (h : NumsOf R w A xs) (hc : Tide.Chg C w w') (hs : ∀ b, R b → ¬ C b) : NumsOf R w' A xs := fun h0 => by
  obtain ⟨b, off, e, hR, hlt, hx⟩ := h h0
  exact ⟨b, off, e, hR, Nat.lt_of_lt_of_le hlt hc.size, fun i x hi => (hc.cell hlt (hs b hR) _).trans (hx i x hi)⟩
/-- a slice of readings, in blocks of R -/
structure RdsIn (R : Nat → Prop) (w : World) (v : Value) (rs : List RdV) : Prop where
  list : ∃ A cap, v = .slice A rs.length cap ∧ (0 < rs.length → ∃ b off, A = some ⟨b, off, none⟩ ∧ R b ∧ b < w.heap.size ∧ ∀ (i : Nat) (r : RdV) (j : Nat) (u : Value), rs[i]? = some r → r.enc[j]? = some u → w.cell? ⟨b, off + i * 2 + j, none⟩ = some u)
  nums : ∀ r ∈ rs, NumsOf R w r.A r.xs
  few : ∀ r ∈ rs, r.xs.length ≤ 9223372036854775807
theorem RdsIn.chg {R C : Nat → Prop} {w w' : World} {v : Value} {rs : List RdV} (h : RdsIn R w v rs) (hc : Tide.Chg C w w') (hs : ∀ b, R b → ¬ C b) : RdsIn R w' v rs := by
  refine ⟨?_, fun r hr => (h.nums r hr).chg hc hs, h.few⟩
  obtain ⟨A, cap, e, hA⟩ := h.list
  refine ⟨A, cap, e, fun h0 => ?_⟩
  obtain ⟨b, off, e1, hR, hlt, h2⟩ := hA h0
  exact ⟨b, off, e1, hR, Nat.lt_of_lt_of_le hlt hc.size, fun i r j u h3 h4 => (hc.cell hlt (hs b hR) _).trans (h2 i r j u h3 h4)⟩
theorem RdsIn.below {R : Nat → Prop} {w w' : World} {v : Value} {rs : List RdV} (h : RdsIn R w v rs) (hb : Below w.heap.size w w') : RdsIn R w' v rs := h.chg (C := fun _ => False) (Tide.Chg.of_below hb (Nat.le_refl _)) (fun _ _ h => h)
/-- one reading of a slice -/
theorem RdsIn.at {R : Nat → Prop} {w : World} {A : Option Addr} {n cap : Nat} {rs : List RdV} (h : RdsIn R w (.slice A n cap) rs) {k : Nat} {r : RdV} (hk : rs[k]? = some r) :
    n = rs.length ∧ ∃ b off, A = some ⟨b, off, none⟩ ∧ w.cell? ⟨b, off + k * 2, none⟩ = some (.bool r.failed) ∧ w.cell? ⟨b, off + k * 2 + 1, none⟩ = some (.slice r.A r.xs.length r.cap) := by
  obtain ⟨A1, c1, e, hA⟩ := h.list
  cases e
  obtain ⟨b, off, e1, _, _, h2⟩ := hA (by have := Tide.get_lt hk; omega)
  exact ⟨rfl, b, off, e1, h2 k r 0 _ hk rfl, h2 k r 1 _ hk rfl⟩
theorem failsL_get : ∀ {ts : List Trg} {rs : List Rd} {fs : List Int} {k : Nat} {t : Trg} {r : Rd} {f : Int}, ts[k]? = some t → rs[k]? = some r → fs[k]? = some f → (failsL ts rs fs)[k]? = some (failOf t r f)
  | [], _, _, k, _, _, _, h, _, _ => by simp at h
  | _ :: _, [], _, k, _, _, _, _, h, _ => by simp at h
  | _ :: _, _ :: _, [], k, _, _, _, _, _, h => by simp at h
  | t :: ts, r :: rs, f :: fs, 0, _, _, _, h1, h2, h3 => by simp at h1 h2 h3; subst h1; subst h2; subst h3; rfl
  | t :: ts, r :: rs, f :: fs, k + 1, _, _, _, h1, h2, h3 => by
    show (failsL ts rs fs)[k]? = _
    exact failsL_get (by simpa using h1) (by simpa using h2) (by simpa using h3)
theorem failsL_length : ∀ {ts : List Trg} {rs : List Rd} {fs : List Int} {n : Nat}, ts.length = n → rs.length = n → fs.length = n → (failsL ts rs fs).length = n
  | [], _, _, n, h, _, _ => by simpa [failsL] using h
  | _ :: _, [], _, n, h, h2, _ => by simp at h h2; omega
  | _ :: _, _ :: _, [], n, h, _, h3 => by simp at h h3; omega
  | t :: ts, r :: rs, f :: fs, 0, h, _, _ => by simp at h
  | t :: ts, r :: rs, f :: fs, n + 1, h1, h2, h3 => by
    show (failsL ts rs fs).length + 1 = n + 1
    rw [failsL_length (n := n) (by simpa using h1) (by simpa using h2) (by simpa using h3)]
/-- the first k are new -/
def mixed (F fs : List Int) (k : Nat) : List Int := F.take k ++ fs.drop k
theorem mixed_zero (F fs : List Int) : mixed F fs 0 = fs := by simp [mixed]
theorem mixed_length {F fs : List Int} {n k : Nat} (h1 : F.length = n) (h2 : fs.length = n) (hk : k ≤ n) : (mixed F fs k).length = n := by simp [mixed]; omega
theorem mixed_all {F fs : List Int} {n : Nat} (h1 : F.length = n) (h2 : fs.length = n) : mixed F fs n = F := by
  unfold mixed; rw [List.take_of_length_le (by omega), List.drop_eq_nil_of_le (by omega), List.append_nil]
theorem mixed_get {F fs : List Int} {n k : Nat} (h1 : F.length = n) (hk : k < n) : (mixed F fs k)[k]? = fs[k]? := by
  unfold mixed
  rw [List.getElem?_append_right (by rw [List.length_take]; omega), List.length_take, show k - min k F.length = 0 by omega, List.getElem?_drop, Nat.add_zero]
theorem mixed_set {F fs : List Int} {n k : Nat} {x : Int} (h1 : F.length = n) (h2 : fs.length = n) (hk : k < n) (hx : F[k]? = some x) : (mixed F fs k).set k x = mixed F fs (k + 1) := by
  unfold mixed
  rw [List.set_append_right _ _ (by rw [List.length_take]; omega), List.length_take, show k - min k F.length = 0 by omega, List.take_add_one, hx]
  have e : fs.drop k = fs[k]'(by omega) :: fs.drop (k + 1) := List.drop_eq_getElem_cons (by omega)
  rw [e, List.set_cons_zero]
  simp
theorem failsL_bd {j : Nat} : ∀ {ts : List Trg} {rs : List Rd} {fs : List Int}, (∀ f ∈ fs, 0 ≤ f ∧ f ≤ j) → ∀ f ∈ failsL ts rs fs, 0 ≤ f ∧ f ≤ (j + 1 : Nat)
  | [], _, _, h, f, hf => by simp [failsL] at hf
  | _ :: _, [], _, h, f, hf => by simp [failsL] at hf
  | _ :: _, _ :: _, [], h, f, hf => by simp [failsL] at hf
  | t :: ts, r :: rs, f0 :: fs, h, f, hf => by
    rcases List.mem_cons.1 (show f ∈ failOf t r f0 :: failsL ts rs fs from hf) with rfl | hf
    · have := h f0 (by simp)
      unfold failOf; split <;> omega
    · exact failsL_bd (fun x hx => h x (by simp [hx])) f hf
def LookPost (T TS TM : TypeId) (S1 S2 : Nat → Prop) (w : World) (g gs : Nat) (vt vf : Value) (l : Lp) (now sec have0 : Int) (rs : List Rd) (busy : Bool) (e : Ending) (w' : World) : Prop :=
  e = .returned (.tuple #[.int .i64 (lookN l now sec have0 rs busy), .int .i64 (lookE l now sec have0 rs.length)]) ∧ (∃ vw vm, LopAt T TS TM S1 (Tide.Plus S2 w w') w' g gs vt vf vw vm (lookL l now sec have0 rs busy)) ∧ Tide.Chg (fun b => S1 b ∨ S2 b) w w'
theorem LopAt.plus {T TS TM : TypeId} {S1 S2 : Nat → Prop} {w w' : World} {g gs : Nat} {vt vf vw vm : Value} {l : Lp} (h : LopAt T TS TM S1 S2 w g gs vt vf vw vm l) (hb : Below w.heap.size w w') : LopAt T TS TM S1 (Tide.Plus S2 w w') w' g gs vt vf vw vm l :=
  (h.below hb).up h.lim
theorem look_no {T TS TM : TypeId} {S1 S2 : Nat → Prop} {w : World} {g gs : Nat} {vt vf vw vm : Value} {l : Lp} {now sec have0 : Int} {rs : List Rd} {busy : Bool} (h : LopAt T TS TM S1 S2 w g gs vt vf vw vm l) (hn : lookOk l now sec have0 rs.length = false) (w' : World) (hb : Below w.heap.size w w') :
    LookPost T TS TM S1 S2 w g gs vt vf l now sec have0 rs busy (.returned (.tuple #[.int .i64 0, .int .i64 1])) w' := by
  refine ⟨by unfold lookN lookE; rw [if_pos hn, if_pos hn], ⟨vw, vm, ?_⟩, Tide.Chg.of_below hb (Nat.le_refl _)⟩
  unfold lookL; rw [if_pos hn]
  exact h.plus hb
set_option maxRecDepth 100000 in
set_option maxHeartbeats 3200000 in
theorem lopLookNo (S1 S2 R : Nat → Prop) (g gs : Nat) (vt vf vw vm v : Value) (l : Lp) (now sec have0 : Int) (rs : List RdV) (busy : Bool) (w : World) (h : LopAt 73 94 96 S1 S2 w g gs vt vf vw vm l) (hr : RdsIn R w v rs)
    (hrl : rs.length ≤ 9223372036854775807) (hl : l.p.trigs.length ≤ 5) (hok : lookOk l now sec have0 rs.length = false) :
    Calls Try.prog 10 #[.pointer (some ⟨g, 0, none⟩), .int .i64 now, .int .i64 sec, .int .i64 have0, v, .bool busy] w (LookPost 73 94 96 S1 S2 w g gs vt vf l now sec have0 (rs.map RdV.rd) busy) := by
  have HF := Lib.hid (look_no (busy := busy) h (rs := rs.map RdV.rd) (by rw [List.length_map]; exact hok))
  obtain ⟨A, cap, rfl, _⟩ := hr.list
  obtain ⟨At, capt, rfl, _, _, _⟩ := h.trg.slice
  have HX := Lib.hid (Tide.At.made w 30 #[.pointer (some ⟨g, 0, none⟩)])
  have HH := Lib.hid (h.head.alloc (.cells #[.pointer (some ⟨g, 0, none⟩)] 30))
  have HB := Lib.hid ((Below.refl w.heap.size w).alloc (Nat.le_refl _) (.cells #[.pointer (some ⟨g, 0, none⟩)] 30))
  unfold lookOk at hok
  generalize rs.length = n at hrl hok HF ⊢
  generalize l.p.trigs.length = m at hl hok HF HH ⊢
  clear h hr
  go_enter Try.func10, Try.ntmps10
  go_upto_region 1 with fail
  generalize w.alloc (.cells #[.pointer (some ⟨g, 0, none⟩)] 30) = W at HX HH HB ⊢
  have xb := HX.out.here (i := 0) rfl
  have x21 := HH.out.here (i := 21) rfl
  have x17 := HH.out.here (i := 17) rfl
  by_cases a0 : now < l.last
  · clear hok
    go_wp2_with fail
    go_ret2
    exact HF.out _ HB.out
  have b0 : l.last ≤ now := by omega
  clear a0
  by_cases a1 : 1099511627776 < now
  · clear hok
    go_wp2_with fail
    go_ret2
    exact HF.out _ HB.out
  have b1 : now ≤ 1099511627776 := by omega
  clear a1
  by_cases a2 : sec < -100000000000
  · clear hok
    go_wp2_with fail
    go_ret2
    exact HF.out _ HB.out
  have b2 : -100000000000 ≤ sec := by omega
  clear a2
  by_cases a3 : 100000000000 < sec
  · clear hok
    go_wp2_with fail
    go_ret2
    exact HF.out _ HB.out
  have b3 : sec ≤ 100000000000 := by omega
  clear a3
  by_cases a4 : have0 < 0
  · clear hok
    go_wp2_with fail
    go_ret2
    exact HF.out _ HB.out
  have b4 : 0 ≤ have0 := by omega
  clear a4
  by_cases a5 : 50 < have0
  · clear hok
    go_wp2_with fail
    go_ret2
    exact HF.out _ HB.out
  have b5 : have0 ≤ 50 := by omega
  clear a5
  have hne : n ≠ m := by
    rintro rfl
    simp [b0, b1, b2, b3, b4, b5] at hok
  have hnb : ((n : Int) != (m : Int)) = true := by simp; omega
  clear hok
  go_wp2_with fail
  go_ret2
  exact HF.out _ HB.out
end Go.Proofs.Ytcnoapogeohmkaa
