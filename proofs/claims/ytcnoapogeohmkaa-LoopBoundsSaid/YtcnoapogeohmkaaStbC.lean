/- The contracts of package stable: right, New, behind, limited. -/
import Derived.Test.YtcnoapogeohmkaaRows
import Derived.WalkKit
import Derived.WalkSpells
import Derived.WalkLawsBesides
import Derived.Lib.Hide
import Derived.Handy
import Derived.RegionTactic
import Derived.BigRegion
import Derived.Deep.QuietTactic
import Derived.BigQuiet
import Derived.Deep.RegionLaw
import Derived.Deep.AppendLies
import Derived.Deep.DeepCutAuto
import Derived.Deep.RegionHeld3
import Derived.StillTailTactics
import Derived.Test.YtcnoapogeohmkaaStbM
import Derived.Test.YtcnoapogeohmkaaNumC
set_option linter.unusedVariables false
set_option linter.unusedSimpArgs false
namespace Go.Proofs.Ytcnoapogeohmkaa
open Go.RowKit
set_option linter.unusedVariables false

set_option maxHeartbeats 400000 in
theorem stbClip (n : Int) (w : World) : Calls Try.prog 59 #[.int .i64 n] w fun e w' => e = .returned (.int .i64 (Tide.clipT n)) ∧ w' = w := by
  by_cases h0 : n < 0
  · go_enter Try.func59, Try.ntmps59
    go_wp2_with fail
    go_ret
    exact ⟨ret_int (by unfold Tide.clipT; omega), rfl⟩
  · have h1 : 0 ≤ n := by omega
    by_cases h2 : 100000 < n
    · clear h0
      go_enter Try.func59, Try.ntmps59
      go_wp2_with fail
      go_ret
      exact ⟨ret_int (by unfold Tide.clipT; omega), rfl⟩
    · have h3 : n ≤ 100000 := by omega
      clear h0 h2
      go_enter Try.func59, Try.ntmps59
      go_wp2_with fail
      go_ret
      exact ⟨ret_int (by unfold Tide.clipT; omega), rfl⟩
def paceV (p : Tide.Pace) : Value := .agg #[.int .i64 p.win, .int .i64 p.pods, .int .i64 p.pct, .int .i64 p.per]
set_option maxRecDepth 100000 in
set_option maxHeartbeats 1600000 in
theorem stbRight (p : Tide.Pace) (w : World) : Calls Try.prog 44 #[paceV p] w fun e w' => e = .returned (paceV p.fix) ∧ Below w.heap.size w w' := by
  unfold paceV
  go_enter Try.func44, Try.ntmps44
  go_wp2_with fail
  go_region_held3 (fun w' => w'.cell? ⟨w.heap.size, 0, none⟩ = some (.int .i64 p.win) ∧ w'.cell? ⟨w.heap.size, 1, none⟩ = some (.int .i64 p.pods) ∧ w'.cell? ⟨w.heap.size, 2, none⟩ = some (.int .i64 p.pct) ∧ w'.cell? ⟨w.heap.size, 3, none⟩ = some (.int .i64 p.per)) (go_keep) (first | (go_at_call 59; refine (stbClip _ _).mono ?_; rintro e w' ⟨rfl, rfl⟩))
  all_goals
    go_wp2_with fail
    refine bodyPost_ret (v := paceV p.fix) (by simp [results, Try.results44, go_sem, paceV, Tide.Pace.fix]) rfl ⟨rfl, ?_⟩
    exact (((Below.refl _ _).alloc (Nat.le_refl _) _).alloc (by simp) _).drew

/-- the slice of marks behind a time -/
def BehindPost (w : World) (l : List Tide.Mark) (at0 : Int) (e : Ending) (w' : World) : Prop := ∃ v', e = .returned v' ∧ Tide.ListIn w' 2 Tide.encM v' (Tide.behindL l at0) ∧ w = w'
theorem behind_list {w : World} {b off n cap i : Nat} {l : List Tide.Mark} (hc : ∀ (i : Nat) (a : Tide.Mark) (j : Nat) (u : Value), l[i]? = some a → (Tide.encM a)[j]? = some u → w.cell? ⟨b, off + i * 2 + j, none⟩ = some u) (hb : b < w.heap.size) (hn : l.length = n) (hi : i ≤ n) (hcap : n ≤ cap) :
    Tide.ListIn w 2 Tide.encM (.slice (if cap = i then some ⟨b, off, none⟩ else some ⟨b, off + i * 2, none⟩) (n - i) (cap - i)) (l.drop i) := by
  refine ⟨_, cap - i, by rw [List.length_drop, hn], fun h0 => ?_⟩
  rw [List.length_drop] at h0
  rw [if_neg (by omega)]
  refine ⟨b, off + i * 2, rfl, hb, fun k a j u hk hu => ?_⟩
  rw [List.getElem?_drop] at hk
  have := hc (i + k) a j u hk hu
  rw [show off + i * 2 + k * 2 + j = off + (i + k) * 2 + j by omega]
  exact this
set_option maxRecDepth 100000 in
set_option maxHeartbeats 1600000 in
theorem stbBehind (v : Value) (l : List Tide.Mark) (at0 : Int) (S : Nat → Prop) (w : World) (h : Tide.OwnRow S w 96 2 v l.length (l.flatMap Tide.encM)) (hl : l.length ≤ 1000000) :
    Calls Try.prog 66 #[v, .int .i64 at0] w (BehindPost w l at0) := by
  rcases h.2 with ⟨rfl, h0⟩ | ⟨b, cap, rfl, hS, hcap, hmax, hrow⟩
  · have hz : l = [] := List.length_eq_zero_iff.1 h0
    subst hz
    have HF := Lib.hid (show BehindPost w [] at0 (.returned (.slice none 0 0)) w from ⟨_, rfl, ⟨none, 0, rfl, fun h => by simp [Tide.behindL] at h⟩, rfl⟩)
    clear h h0
    go_enter Try.func66, Try.ntmps66
    go_wp2_with fail
    go_loop [5] (fun i => i = .int .i64 0) (fun _ => 0)
    case atStart => rfl
    case round =>
      subst hrel
      go_wp2_with fail
      go_ret
      exact HF.out
  · obtain ⟨k0, rfl⟩ : ∃ m, cap = m := ⟨_, rfl⟩
    have hm : cap ≤ 9223372036854775807 := hmax
    have HR := Lib.hid hrow
    have hbw := hrow.inside
    clear h hrow hmax
    go_enter Try.func66, Try.ntmps66
    go_wp2_with fail
    go_loop [5] (fun i => ∃ k : Nat, k ≤ l.length ∧ i = .int .i64 k ∧ Hid (∀ m ∈ l.drop k, at0 < m.1)) (fun i => (intOf i).toNat)
    case atStart => exact ⟨l.length, Nat.le_refl _, rfl, by simp [Hid]⟩
    case round =>
      obtain ⟨k, hk, rfl, hall⟩ := hrel
      by_cases hz : k = 0
      · subst hz
        have HF := Lib.hid (show BehindPost w l at0 (.returned (.slice (some ⟨b, 0, none⟩) l.length cap)) w from ⟨_, rfl, by
          rw [Tide.behind_eq (Nat.zero_le _) hall.out (.inl rfl), List.drop_zero]
          exact ⟨_, cap, rfl, fun _ => ⟨b, 0, rfl, hbw, fun i a j u h1 h2 => by rw [Nat.zero_add]; exact HR.out.cell (Tide.flat_get Tide.encM_length h1 h2)⟩⟩, rfl⟩)
        go_wp2_with fail
        go_ret
        exact HF.out
      · obtain ⟨m, hm1⟩ := Tide.get_some l (show k - 1 < l.length by omega)
        have c0 := HR.out.cell (Tide.flat_get (j := 0) Tide.encM_length hm1 rfl)
        obtain ⟨q, rfl⟩ : ∃ q, k = q + 1 := ⟨k - 1, by omega⟩
        rw [Nat.add_sub_cancel] at c0 hm1
        simp only [Nat.add_zero] at c0
        have i0 : (0 : Int) ≤ (q : Int) := by omega
        have i1 : (q : Int) < (l.length : Int) := by omega
        have HM := Lib.hid hm1
        clear hm1 hz
        by_cases hat : at0 < m.1
        · have HN := Lib.hid (show ∀ m' ∈ l.drop q, at0 < m'.1 from fun m' hm' => by
            rw [Tide.drop_of_get HM.out] at hm'
            rcases List.mem_cons.1 hm' with e | e
            · subst e; exact hat
            · exact hall.out m' e)
          clear hall
          go_wp2_with fail
          go_round
          case rel => exact ⟨q, by omega, by go_num, HN⟩
          case measure => simp [intOf] <;> omega
        · have hle : m.1 ≤ at0 := by omega
          have e := Lib.hid (Tide.behind_eq hk hall.out (.inr ⟨m, by rw [Nat.add_sub_cancel]; exact HM.out, hle⟩))
          have HF := Lib.hid (show BehindPost w l at0 (.returned (.slice (if cap = q + 1 then some ⟨b, 0, none⟩ else some ⟨b, 0 + (q + 1) * 2, none⟩) (l.length - (q + 1)) (cap - (q + 1)))) w from ⟨_, rfl, by
            rw [e.out]
            exact behind_list (fun i a j u h1 h2 => by rw [Nat.zero_add]; exact HR.out.cell (Tide.flat_get Tide.encM_length h1 h2)) hbw rfl hk hcap, rfl⟩)
          rw [Nat.zero_add] at HF
          have q1 : q + 1 ≤ cap := by omega
          have q2 : (0 : Int) ≤ (q : Int) + 1 := by omega
          have q3 : (q : Int) + 1 ≤ (l.length : Int) := by omega
          clear hall hat
          by_cases hcc : cap = q + 1
          · subst hcc
            rw [if_pos rfl, show l.length - (q + 1) = 0 by omega, Nat.sub_self] at HF
            go_wp2_with fail
            go_ret
            exact HF.out
          · rw [if_neg hcc] at HF
            go_wp2_with fail
            go_ret
            exact HF.out

def paceC (p : Tide.Pace) : List Value := [.int .i64 p.win, .int .i64 p.pods, .int .i64 p.pct, .int .i64 p.per]
set_option maxHeartbeats 800000 in
theorem stbLimited (p : Tide.Pace) (w : World) : Calls Try.prog 67 #[.agg #[.int .i64 p.win, .int .i64 p.pods, .int .i64 p.pct, .int .i64 p.per]] w fun e w' => e = .returned (.bool p.limited) ∧ Below w.heap.size w w' := by
  have hb := fun o => ((Below.refl _ w).alloc (Nat.le_refl _) o)
  have HB := Lib.hid hb
  clear hb
  by_cases h0 : 0 < p.per
  · by_cases h1 : 0 < p.pods
    · go_enter Try.func67, Try.ntmps67
      go_wp2_with fail
      go_ret
      exact ⟨by simp [Tide.Pace.limited, h0, h1], HB.out _⟩
    · have h1' : p.pods ≤ 0 := by omega
      by_cases h2 : 0 < p.pct
      · go_enter Try.func67, Try.ntmps67
        go_wp2_with fail
        go_ret
        exact ⟨by simp [Tide.Pace.limited, h0, h1, h2], HB.out _⟩
      · have h2' : p.pct ≤ 0 := by omega
        go_enter Try.func67, Try.ntmps67
        go_wp2_with fail
        go_ret
        exact ⟨by simp [Tide.Pace.limited, h0, h1, h2], HB.out _⟩
  · have h0' : p.per ≤ 0 := by omega
    go_enter Try.func67, Try.ntmps67
    go_wp2_with fail
    go_ret
    exact ⟨by simp [Tide.Pace.limited]; omega, HB.out _⟩

/-- a Stable in memory (T: its type, TM: its marks' type) -/
structure StbAt (T TM : TypeId) (S : Nat → Prop) (w : World) (g : Nat) (s : Tide.Stb) (vw vm : Value) : Prop where
  head : Tide.At w g T #[.int .i64 s.up.win, .int .i64 s.up.pods, .int .i64 s.up.pct, .int .i64 s.up.per, .int .i64 s.down.win, .int .i64 s.down.pods, .int .i64 s.down.pct, .int .i64 s.down.per, .int .i64 s.last, vw, vm]
  wan : Tide.OwnRow S w TM 2 vw s.wanted.length (s.wanted.flatMap Tide.encM)
  mov : Tide.OwnRow S w TM 2 vm s.moved.length (s.moved.flatMap Tide.encM)
  apart : ∀ b, vw.ownBlock = some b → vm.ownBlock ≠ some b
  own : S g
  lim : ∀ b, S b → b < w.heap.size
theorem StbAt.chg {T TM : TypeId} {S C : Nat → Prop} {w w' : World} {g : Nat} {s : Tide.Stb} {vw vm : Value} (h : StbAt T TM S w g s vw vm) (hc : Tide.Chg C w w') (hs : ∀ b, S b → ¬ C b) : StbAt T TM S w' g s vw vm :=
  ⟨h.head.chg hc (hs g h.own), h.wan.chg hc hs, h.mov.chg hc hs, h.apart, h.own, fun b hb => Nat.lt_of_lt_of_le (h.lim b hb) hc.size⟩
theorem StbAt.below {T TM : TypeId} {S : Nat → Prop} {w w' : World} {g : Nat} {s : Tide.Stb} {vw vm : Value} (h : StbAt T TM S w g s vw vm) (hb : Below w.heap.size w w') : StbAt T TM S w' g s vw vm :=
  h.chg (C := fun _ => False) (Tide.Chg.of_below hb (Nat.le_refl _)) (fun _ _ h => h)
/-- a list of marks, read mark by mark -/
theorem mark_at {w wr : World} {v : Value} {l : List Tide.Mark} (h : Tide.ListIn w 2 Tide.encM v l) (hb : Below w.heap.size w wr) {k : Nat} {m : Tide.Mark} (hk : l[k]? = some m) :
    ∃ b off cap, v = .slice (some ⟨b, off, none⟩) l.length cap ∧ wr.cell? ⟨b, off + k * 2, none⟩ = some (.int .i64 m.1) ∧ wr.cell? ⟨b, off + k * 2 + 1, none⟩ = some (.int .i64 m.2) := by
  obtain ⟨A, cap, rfl, hA⟩ := h
  obtain ⟨b, off, rfl, hlt, hc⟩ := hA (by have := Tide.get_lt hk; omega)
  exact ⟨b, off, cap, rfl, (hb.cell (p := ⟨b, off + k * 2, none⟩) hlt).trans (hc k m 0 _ hk rfl), (hb.cell (p := ⟨b, off + k * 2 + 1, none⟩) hlt).trans (hc k m 1 _ hk rfl)⟩
theorem list_slice {α : Type} {enc : α → List Value} {k : Nat} {w : World} {v : Value} {l : List α} (h : Tide.ListIn w k enc v l) : ∃ A cap, v = .slice A l.length cap := by
  obtain ⟨A, cap, e, _⟩ := h; exact ⟨A, cap, e⟩
end Go.Proofs.Ytcnoapogeohmkaa
