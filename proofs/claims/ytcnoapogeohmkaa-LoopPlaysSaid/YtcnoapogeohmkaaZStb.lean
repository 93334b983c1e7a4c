/- What a Stable does, as plain functions. The contracts of package stable: right, New, behind, limited. The contracts of package stable: more. The contracts of package stable: fewer. The contract of Settle. stable: New; the small check 'slow'; the laws StableBetween and StableFree, walked. A Stable without windows and paces tells what is wanted: plain. -/
import Derived.Test.YtcnoapogeohmkaaZBase
import Derived.Test.YtcnoapogeohmkaaZNum
import Derived.Test.YtcnoapogeohmkaaRows
import Derived.WalkKit
import Derived.WalkSpells
import Derived.WalkLawsBesides
import Derived.Lib.Hide
import Derived.Handy
import Derived.RegionTactic
import Derived.BigRegion
import Derived.Deep.QuietTactic
import Derived.BigQuiet
import Derived.Deep.RegionLaw
import Derived.Deep.AppendLies
import Derived.Deep.DeepCutAuto
import Derived.Deep.RegionHeld3
import Derived.StillTailTactics
import Derived.IntWalk
import Derived.Deep.CutBlock

set_option linter.unusedVariables false
set_option linter.unusedSimpArgs false
namespace Tide
open Go
structure Pace where
  win : Int
  pods : Int
  pct : Int
  per : Int
def clipT (n : Int) : Int := min (max n 0) 100000
def Pace.fix (p : Pace) : Pace := ⟨clipT p.win, clipT p.pods, clipT p.pct, clipT p.per⟩
def Pace.ok (p : Pace) : Prop := (0 ≤ p.win ∧ p.win ≤ 100000) ∧ (0 ≤ p.pods ∧ p.pods ≤ 100000) ∧ (0 ≤ p.pct ∧ p.pct ≤ 100000) ∧ (0 ≤ p.per ∧ p.per ≤ 100000)
theorem clipT_bd (n : Int) : 0 ≤ clipT n ∧ clipT n ≤ 100000 := by unfold clipT; omega
theorem Pace.fix_ok (p : Pace) : p.fix.ok := ⟨clipT_bd _, clipT_bd _, clipT_bd _, clipT_bd _⟩
def Pace.limited (p : Pace) : Bool := decide (0 < p.per) && (decide (0 < p.pods) || decide (0 < p.pct))
abbrev Mark := Int × Int
def encM (m : Mark) : List Value := [.int .i64 m.1, .int .i64 m.2]
theorem encM_length (m : Mark) : (encM m).length = 2 := rfl
/-- the marks later than a time -/
def behindL (l : List Mark) (at0 : Int) : List Mark := (l.reverse.takeWhile (fun m => decide (at0 < m.1))).reverse
theorem behind_eq {l : List Mark} {at0 : Int} {i : Nat} (hi : i ≤ l.length) (h : ∀ m ∈ l.drop i, at0 < m.1) (h0 : i = 0 ∨ ∃ m, l[i - 1]? = some m ∧ m.1 ≤ at0) : behindL l at0 = l.drop i := by
  have e : l.reverse = (l.drop i).reverse ++ (l.take i).reverse := by rw [← List.reverse_append, List.take_append_drop]
  unfold behindL
  rw [e, List.takeWhile_append_of_pos (fun m hm => by simpa using h m (List.mem_reverse.1 hm))]
  have : (l.take i).reverse.takeWhile (fun m => decide (at0 < m.1)) = [] := by
    rcases h0 with h0 | ⟨m, hm, hle⟩
    · subst h0; simp
    · have hp : 0 < i := by
        rcases Nat.eq_zero_or_pos i with hz | hz
        · exfalso; subst hz
          have := h m (by simpa using List.mem_of_getElem? hm)
          omega
        · exact hz
      have : l.take i = l.take (i - 1) ++ [m] := by
        have := take_of_get hm
        rwa [show i - 1 + 1 = i by omega] at this
      have hd : decide (at0 < m.1) = false := by simp; omega
      rw [this, List.reverse_append]
      simp only [List.reverse_cons, List.reverse_nil, List.nil_append, List.cons_append, List.takeWhile_cons, hd]
      rfl
  rw [this, List.append_nil, List.reverse_reverse]
theorem behindL_mem {l : List Mark} {at0 : Int} : ∀ m ∈ behindL l at0, m ∈ l := fun m hm => by
  unfold behindL at hm
  exact List.mem_reverse.1 ((List.takeWhile_sublist _).subset (List.mem_reverse.1 hm))
theorem behindL_length (l : List Mark) (at0 : Int) : (behindL l at0).length ≤ l.length := by
  unfold behindL
  rw [List.length_reverse]
  exact Nat.le_trans (List.takeWhile_sublist _).length_le (by rw [List.length_reverse]; exact Nat.le_refl _)
theorem ceilc_bd (a : Int) : -1000000000000000 ≤ ceilc a 100 ∧ ceilc a 100 ≤ 1000000000000000 := by
  have : -1000000000000000 ≤ clip a ∧ clip a ≤ 1000000000000000 := by unfold clip; split <;> (try split) <;> omega
  have e : clip 100 = 100 := by decide
  unfold ceilc; rw [e]; omega
theorem sharec_bd (a m : Int) : -1000000000000000 ≤ sharec a m ∧ sharec a m ≤ 1000000000000000 := by
  unfold sharec; unfold clip; split <;> (try split) <;> omega
theorem mul_bd {a b x y : Int} (h0 : 0 ≤ a) (h1 : a ≤ x) (h2 : 0 ≤ b) (h3 : b ≤ y) : 0 ≤ a * b ∧ a * b ≤ x * y := ⟨Int.mul_nonneg h0 h2, Int.mul_le_mul h1 h3 h2 (by omega)⟩
def minAll (l : List Mark) (x : Int) : Int := l.foldl (fun a m => min a m.2) x
def maxAll (l : List Mark) (x : Int) : Int := l.foldl (fun a m => max a m.2) x
def sumUp (l : List Mark) (x : Int) : Int := l.foldl (fun a m => a + max m.2 0) x
def sumDown (l : List Mark) (x : Int) : Int := l.foldl (fun a m => a + max (-m.2) 0) x
theorem fold_snoc {α β : Type} {f : β → α → β} {l : List α} {k : Nat} {m : α} {x : β} (h : l[k]? = some m) : (l.take (k + 1)).foldl f x = f ((l.take k).foldl f x) m := by rw [take_of_get h, List.foldl_append]; rfl
theorem minAll_bd : ∀ (l : List Mark) (x : Int), 0 ≤ x → x ≤ 50 → (∀ m ∈ l, 0 ≤ m.2 ∧ m.2 ≤ 50) → 0 ≤ minAll l x ∧ minAll l x ≤ 50
  | [], x, h0, h1, _ => ⟨h0, h1⟩
  | a :: l, x, h0, h1, h => by
    have := h a (by simp)
    exact minAll_bd l (min x a.2) (by omega) (by omega) (fun m hm => h m (by simp [hm]))
theorem maxAll_bd : ∀ (l : List Mark) (x : Int), 0 ≤ x → x ≤ 50 → (∀ m ∈ l, 0 ≤ m.2 ∧ m.2 ≤ 50) → 0 ≤ maxAll l x ∧ maxAll l x ≤ 50
  | [], x, h0, h1, _ => ⟨h0, h1⟩
  | a :: l, x, h0, h1, h => by
    have := h a (by simp)
    exact maxAll_bd l (max x a.2) (by omega) (by omega) (fun m hm => h m (by simp [hm]))
theorem sumUp_bd : ∀ (l : List Mark) (x : Int), (∀ m ∈ l, -50 ≤ m.2 ∧ m.2 ≤ 50) → x ≤ sumUp l x ∧ sumUp l x ≤ x + 50 * l.length
  | [], x, _ => ⟨by simp [sumUp], by simp [sumUp]⟩
  | a :: l, x, h => by
    have := h a (by simp)
    have ih := sumUp_bd l (x + max a.2 0) (fun m hm => h m (by simp [hm]))
    have e : sumUp (a :: l) x = sumUp l (x + max a.2 0) := rfl
    rw [e, List.length_cons]; omega
theorem sumDown_bd : ∀ (l : List Mark) (x : Int), (∀ m ∈ l, -50 ≤ m.2 ∧ m.2 ≤ 50) → x ≤ sumDown l x ∧ sumDown l x ≤ x + 50 * l.length
  | [], x, _ => ⟨by simp [sumDown], by simp [sumDown]⟩
  | a :: l, x, h => by
    have := h a (by simp)
    have ih := sumDown_bd l (x + max (-a.2) 0) (fun m hm => h m (by simp [hm]))
    have e : sumDown (a :: l) x = sumDown l (x + max (-a.2) 0) := rfl
    rw [e, List.length_cons]; omega
/-- a Stable as plain data -/
structure Stb where
  up : Pace
  down : Pace
  last : Int
  wanted : List Mark
  moved : List Mark
structure Stb.ok (s : Stb) (j : Nat) : Prop where
  up : s.up.ok
  down : s.down.ok
  last0 : 0 ≤ s.last
  last1 : s.last ≤ 1099511627776
  wan : ∀ m ∈ s.wanted, (0 ≤ m.2 ∧ m.2 ≤ 50) ∧ (0 ≤ m.1 ∧ m.1 ≤ s.last)
  mov : ∀ m ∈ s.moved, (-50 ≤ m.2 ∧ m.2 ≤ 50) ∧ (0 ≤ m.1 ∧ m.1 ≤ s.last)
  wsort : s.wanted.Pairwise (fun a b => a.1 ≤ b.1)
  msort : s.moved.Pairwise (fun a b => a.1 ≤ b.1)
  wlen : s.wanted.length ≤ j
  mlen : s.moved.length ≤ j
def baseUp (s : Stb) (now have0 : Int) : Int := max (have0 - sumUp (behindL s.moved (now - s.up.per)) 0) 0
def moreN (s : Stb) (now have0 want : Int) : Int :=
  let w1 := minAll (behindL s.wanted (now - s.up.win)) want
  max (if s.up.limited then min w1 (baseUp s now have0 + max s.up.pods (ceilc (baseUp s now have0 * s.up.pct) 100)) else w1) have0
def baseDown (s : Stb) (now have0 : Int) : Int := sumDown (behindL s.moved (now - s.down.per)) have0
def fewerN (s : Stb) (now have0 want : Int) : Int :=
  let w1 := maxAll (behindL s.wanted (now - s.down.win)) want
  min (if s.down.limited then max w1 (baseDown s now have0 - max s.down.pods (sharec (baseDown s now have0) (10 * s.down.pct))) else w1) have0
def settleOk (s : Stb) (now have0 want : Int) : Bool := decide (s.last ≤ now) && decide (now ≤ 1099511627776) && (decide (0 ≤ have0) && decide (have0 ≤ 50)) && (decide (0 ≤ want) && decide (want ≤ 50))
def Stb.seen (s : Stb) (now want : Int) : Stb := { s with last := now, wanted := s.wanted ++ [(now, want)] }
def settleN0 (s : Stb) (now have0 want : Int) : Int := if have0 < want then moreN s now have0 want else if want < have0 then fewerN s now have0 want else have0
def settleN (s : Stb) (now have0 want : Int) : Int := if settleOk s now have0 want then settleN0 (s.seen now want) now have0 want else 0
def settleE (s : Stb) (now have0 want : Int) : Int := if settleOk s now have0 want then 0 else 1
def Stb.went (s : Stb) (now n : Int) : Stb := { s with moved := s.moved ++ [(now, n)] }
def settleS (s : Stb) (now have0 want : Int) : Stb :=
  if settleOk s now have0 want then (if settleN0 (s.seen now want) now have0 want = have0 then s.seen now want else (s.seen now want).went now (settleN0 (s.seen now want) now have0 want - have0)) else s
end Tide


namespace Go.Proofs.Ytcnoapogeohmkaa
open Go.RowKit
set_option linter.unusedVariables false

set_option maxHeartbeats 400000 in
theorem stbClip (n : Int) (w : World) : Calls Try.prog 59 #[.int .i64 n] w fun e w' => e = .returned (.int .i64 (Tide.clipT n)) ∧ w' = w := by
  by_cases h0 : n < 0
  · go_enter Try.func59, Try.ntmps59
    go_wp2_with fail
    go_ret
    exact ⟨ret_int (by unfold Tide.clipT; omega), rfl⟩
  · have h1 : 0 ≤ n := by omega
    by_cases h2 : 100000 < n
    · clear h0
      go_enter Try.func59, Try.ntmps59
      go_wp2_with fail
      go_ret
      exact ⟨ret_int (by unfold Tide.clipT; omega), rfl⟩
    · have h3 : n ≤ 100000 := by omega
      clear h0 h2
      go_enter Try.func59, Try.ntmps59
      go_wp2_with fail
      go_ret
      exact ⟨ret_int (by unfold Tide.clipT; omega), rfl⟩
def paceV (p : Tide.Pace) : Value := .agg #[.int .i64 p.win, .int .i64 p.pods, .int .i64 p.pct, .int .i64 p.per]
set_option maxRecDepth 100000 in
set_option maxHeartbeats 1600000 in
theorem stbRight (p : Tide.Pace) (w : World) : Calls Try.prog 44 #[paceV p] w fun e w' => e = .returned (paceV p.fix) ∧ Below w.heap.size w w' := by
  unfold paceV
  go_enter Try.func44, Try.ntmps44
  go_wp2_with fail
  go_region_held3 (fun w' => w'.cell? ⟨w.heap.size, 0, none⟩ = some (.int .i64 p.win) ∧ w'.cell? ⟨w.heap.size, 1, none⟩ = some (.int .i64 p.pods) ∧ w'.cell? ⟨w.heap.size, 2, none⟩ = some (.int .i64 p.pct) ∧ w'.cell? ⟨w.heap.size, 3, none⟩ = some (.int .i64 p.per)) (go_keep) (first | (go_at_call 59; refine (stbClip _ _).mono ?_; rintro e w' ⟨rfl, rfl⟩))
  all_goals
    go_wp2_with fail
    refine bodyPost_ret (v := paceV p.fix) (by simp [results, Try.results44, go_sem, paceV, Tide.Pace.fix]) rfl ⟨rfl, ?_⟩
    exact (((Below.refl _ _).alloc (Nat.le_refl _) _).alloc (by simp) _).drew

/-- the slice of marks behind a time -/
def BehindPost (w : World) (l : List Tide.Mark) (at0 : Int) (e : Ending) (w' : World) : Prop := ∃ v', e = .returned v' ∧ Tide.ListIn w' 2 Tide.encM v' (Tide.behindL l at0) ∧ w = w'
theorem behind_list {w : World} {b off n cap i : Nat} {l : List Tide.Mark} (hc : ∀ (i : Nat) (a : Tide.Mark) (j : Nat) (u : Value), l[i]? = some a → (Tide.encM a)[j]? = some u → w.cell? ⟨b, off + i * 2 + j, none⟩ = some u) (hb : b < w.heap.size) (hn : l.length = n) (hi : i ≤ n) (hcap : n ≤ cap) :
    Tide.ListIn w 2 Tide.encM (.slice (if cap = i then some ⟨b, off, none⟩ else some ⟨b, off + i * 2, none⟩) (n - i) (cap - i)) (l.drop i) := by
  refine ⟨_, cap - i, by rw [List.length_drop, hn], fun h0 => ?_⟩
  rw [List.length_drop] at h0
  rw [if_neg (by omega)]
  refine ⟨b, off + i * 2, rfl, hb, fun k a j u hk hu => ?_⟩
  rw [List.getElem?_drop] at hk
  have := hc (i + k) a j u hk hu
  rw [show off + i * 2 + k * 2 + j = off + (i + k) * 2 + j by omega]
  exact this
set_option maxRecDepth 100000 in
set_option maxHeartbeats 1600000 in
theorem stbBehind (v : Value) (l : List Tide.Mark) (at0 : Int) (S : Nat → Prop) (w : World) (h : Tide.OwnRow S w 96 2 v l.length (l.flatMap Tide.encM)) (hl : l.length ≤ 1000000) :
    Calls Try.prog 66 #[v, .int .i64 at0] w (BehindPost w l at0) := by
  rcases h.2 with ⟨rfl, h0⟩ | ⟨b, cap, rfl, hS, hcap, hmax, hrow⟩
  · have hz : l = [] := List.length_eq_zero_iff.1 h0
    subst hz
    have HF := Lib.hid (show BehindPost w [] at0 (.returned (.slice none 0 0)) w from ⟨_, rfl, ⟨none, 0, rfl, fun h => by simp [Tide.behindL] at h⟩, rfl⟩)
    clear h h0
    go_enter Try.func66, Try.ntmps66
    go_wp2_with fail
    go_loop [5] (fun i => i = .int .i64 0) (fun _ => 0)
    case atStart => rfl
    case round =>
      subst hrel
      go_wp2_with fail
      go_ret
      exact HF.out
  · obtain ⟨k0, rfl⟩ : ∃ m, cap = m := ⟨_, rfl⟩
    have hm : cap ≤ 9223372036854775807 := hmax
    have HR := Lib.hid hrow
    have hbw := hrow.inside
    clear h hrow hmax
    go_enter Try.func66, Try.ntmps66
    go_wp2_with fail
    go_loop [5] (fun i => ∃ k : Nat, k ≤ l.length ∧ i = .int .i64 k ∧ Hid (∀ m ∈ l.drop k, at0 < m.1)) (fun i => (intOf i).toNat)
    case atStart => exact ⟨l.length, Nat.le_refl _, rfl, by simp [Hid]⟩
    case round =>
      obtain ⟨k, hk, rfl, hall⟩ := hrel
      by_cases hz : k = 0
      · subst hz
        have HF := Lib.hid (show BehindPost w l at0 (.returned (.slice (some ⟨b, 0, none⟩) l.length cap)) w from ⟨_, rfl, by
          rw [Tide.behind_eq (Nat.zero_le _) hall.out (.inl rfl), List.drop_zero]
          exact ⟨_, cap, rfl, fun _ => ⟨b, 0, rfl, hbw, fun i a j u h1 h2 => by rw [Nat.zero_add]; exact HR.out.cell (Tide.flat_get Tide.encM_length h1 h2)⟩⟩, rfl⟩)
        go_wp2_with fail
        go_ret
        exact HF.out
      · obtain ⟨m, hm1⟩ := Tide.get_some l (show k - 1 < l.length by omega)
        have c0 := HR.out.cell (Tide.flat_get (j := 0) Tide.encM_length hm1 rfl)
        obtain ⟨q, rfl⟩ : ∃ q, k = q + 1 := ⟨k - 1, by omega⟩
        rw [Nat.add_sub_cancel] at c0 hm1
        simp only [Nat.add_zero] at c0
        have i0 : (0 : Int) ≤ (q : Int) := by omega
        have i1 : (q : Int) < (l.length : Int) := by omega
        have HM := Lib.hid hm1
        clear hm1 hz
        by_cases hat : at0 < m.1
        · have HN := Lib.hid (show ∀ m' ∈ l.drop q, at0 < m'.1 from fun m' hm' => by
            rw [Tide.drop_of_get HM.out] at hm'
            rcases List.mem_cons.1 hm' with e | e
            · subst e; exact hat
            · exact hall.out m' e)
          clear hall
          go_wp2_with fail
          go_round
          case rel => exact ⟨q, by omega, by go_num, HN⟩
          case measure => simp [intOf] <;> omega
        · have hle : m.1 ≤ at0 := by omega
          have e := Lib.hid (Tide.behind_eq hk hall.out (.inr ⟨m, by rw [Nat.add_sub_cancel]; exact HM.out, hle⟩))
          have HF := Lib.hid (show BehindPost w l at0 (.returned (.slice (if cap = q + 1 then some ⟨b, 0, none⟩ else some ⟨b, 0 + (q + 1) * 2, none⟩) (l.length - (q + 1)) (cap - (q + 1)))) w from ⟨_, rfl, by
            rw [e.out]
            exact behind_list (fun i a j u h1 h2 => by rw [Nat.zero_add]; exact HR.out.cell (Tide.flat_get Tide.encM_length h1 h2)) hbw rfl hk hcap, rfl⟩)
          rw [Nat.zero_add] at HF
          have q1 : q + 1 ≤ cap := by omega
          have q2 : (0 : Int) ≤ (q : Int) + 1 := by omega
          have q3 : (q : Int) + 1 ≤ (l.length : Int) := by omega
          clear hall hat
          by_cases hcc : cap = q + 1
          · subst hcc
            rw [if_pos rfl, show l.length - (q + 1) = 0 by omega, Nat.sub_self] at HF
            go_wp2_with fail
            go_ret
            exact HF.out
          · rw [if_neg hcc] at HF
            go_wp2_with fail
            go_ret
            exact HF.out

def paceC (p : Tide.Pace) : List Value := [.int .i64 p.win, .int .i64 p.pods, .int .i64 p.pct, .int .i64 p.per]
set_option maxHeartbeats 800000 in
theorem stbLimited (p : Tide.Pace) (w : World) : Calls Try.prog 67 #[.agg #[.int .i64 p.win, .int .i64 p.pods, .int .i64 p.pct, .int .i64 p.per]] w fun e w' => e = .returned (.bool p.limited) ∧ Below w.heap.size w w' := by
  have hb := fun o => ((Below.refl _ w).alloc (Nat.le_refl _) o)
  have HB := Lib.hid hb
  clear hb
  by_cases h0 : 0 < p.per
  · by_cases h1 : 0 < p.pods
    · go_enter Try.func67, Try.ntmps67
      go_wp2_with fail
      go_ret
      exact ⟨by simp [Tide.Pace.limited, h0, h1], HB.out _⟩
    · have h1' : p.pods ≤ 0 := by omega
      by_cases h2 : 0 < p.pct
      · go_enter Try.func67, Try.ntmps67
        go_wp2_with fail
        go_ret
        exact ⟨by simp [Tide.Pace.limited, h0, h1, h2], HB.out _⟩
      · have h2' : p.pct ≤ 0 := by omega
        go_enter Try.func67, Try.ntmps67
        go_wp2_with fail
        go_ret
        exact ⟨by simp [Tide.Pace.limited, h0, h1, h2], HB.out _⟩
  · have h0' : p.per ≤ 0 := by omega
    go_enter Try.func67, Try.ntmps67
    go_wp2_with fail
    go_ret
    exact ⟨by simp [Tide.Pace.limited]; omega, HB.out _⟩

/-- a Stable in memory (T: its type, TM: its marks' type) -/
structure StbAt (T TM : TypeId) (S : Nat → Prop) (w : World) (g : Nat) (s : Tide.Stb) (vw vm : Value) : Prop where
  head : Tide.At w g T #[.int .i64 s.up.win, .int .i64 s.up.pods, .int .i64 s.up.pct, .int .i64 s.up.per, .int .i64 s.down.win, .int .i64 s.down.pods, .int .i64 s.down.pct, .int .i64 s.down.per, .int .i64 s.last, vw, vm]
  wan : Tide.OwnRow S w TM 2 vw s.wanted.length (s.wanted.flatMap Tide.encM)
  mov : Tide.OwnRow S w TM 2 vm s.moved.length (s.moved.flatMap Tide.encM)
  apart : ∀ b, vw.ownBlock = some b → vm.ownBlock ≠ some b
  own : S g
  lim : ∀ b, S b → b < w.heap.size
theorem StbAt.chg {T TM : TypeId} {S C : Nat → Prop} {w w' : World} {g : Nat} {s : Tide.Stb} {vw vm : Value} (h : StbAt T TM S w g s vw vm) (hc : Tide.Chg C w w') (hs : ∀ b, S b → ¬ C b) : StbAt T TM S w' g s vw vm :=
  ⟨h.head.chg hc (hs g h.own), h.wan.chg hc hs, h.mov.chg hc hs, h.apart, h.own, fun b hb => Nat.lt_of_lt_of_le (h.lim b hb) hc.size⟩
theorem StbAt.below {T TM : TypeId} {S : Nat → Prop} {w w' : World} {g : Nat} {s : Tide.Stb} {vw vm : Value} (h : StbAt T TM S w g s vw vm) (hb : Below w.heap.size w w') : StbAt T TM S w' g s vw vm :=
  h.chg (C := fun _ => False) (Tide.Chg.of_below hb (Nat.le_refl _)) (fun _ _ h => h)
/-- a list of marks, read mark by mark -/
theorem mark_at {w wr : World} {v : Value} {l : List Tide.Mark} (h : Tide.ListIn w 2 Tide.encM v l) (hb : Below w.heap.size w wr) {k : Nat} {m : Tide.Mark} (hk : l[k]? = some m) :
    ∃ b off cap, v = .slice (some ⟨b, off, none⟩) l.length cap ∧ wr.cell? ⟨b, off + k * 2, none⟩ = some (.int .i64 m.1) ∧ wr.cell? ⟨b, off + k * 2 + 1, none⟩ = some (.int .i64 m.2) := by
  obtain ⟨A, cap, rfl, hA⟩ := h
  obtain ⟨b, off, rfl, hlt, hc⟩ := hA (by have := Tide.get_lt hk; omega)
  exact ⟨b, off, cap, rfl, (hb.cell (p := ⟨b, off + k * 2, none⟩) hlt).trans (hc k m 0 _ hk rfl), (hb.cell (p := ⟨b, off + k * 2 + 1, none⟩) hlt).trans (hc k m 1 _ hk rfl)⟩
theorem list_slice {α : Type} {enc : α → List Value} {k : Nat} {w : World} {v : Value} {l : List α} (h : Tide.ListIn w k enc v l) : ∃ A cap, v = .slice A l.length cap := by
  obtain ⟨A, cap, e, _⟩ := h; exact ⟨A, cap, e⟩
end Go.Proofs.Ytcnoapogeohmkaa


namespace Go.Proofs.Ytcnoapogeohmkaa
open Go.RowKit
set_option linter.unusedVariables false
def LongPost (w : World) (n : Int) (e : Ending) (w' : World) : Prop := e = .returned (.int .i64 n) ∧ Below w.heap.size w w'
set_option maxRecDepth 100000 in
set_option maxHeartbeats 6400000 in
theorem stbMore (S : Nat → Prop) (g : Nat) (s : Tide.Stb) (vw vm : Value) (now have0 want : Int) (w : World) (j : Nat) (h : StbAt 94 96 S w g s vw vm) (hs : s.ok j) (hj : j ≤ 100000) (n0 : 0 ≤ now) (n1 : now ≤ 1099511627776) (h0 : 0 ≤ have0) (h1 : have0 ≤ 50) (w0 : 0 ≤ want) (w1 : want ≤ 50) :
    Calls Try.prog 47 #[.pointer (some ⟨g, 0, none⟩), .int .i64 now, .int .i64 have0, .int .i64 want] w (LongPost w (Tide.moreN s now have0 want)) := by
  obtain ⟨⟨u0, u1⟩, ⟨u2, u3⟩, ⟨u4, u5⟩, ⟨u6, u7⟩⟩ := hs.up
  have c0 : w.cell? ⟨g, 0, none⟩ = some (.int .i64 s.up.win) := h.head.here rfl
  have c3 : w.cell? ⟨g, 9, none⟩ = some vw := h.head.here rfl
  have HH := Lib.hid h; have HS := Lib.hid hs
  have e1 : IntKind.i64.wrap (now - s.up.win) = now - s.up.win := IntWalk.i64_in _ (by omega)
  clear h hs
  go_enter Try.func47, Try.ntmps47
  go_wp2_with fail
  go_region_held3 (fun w' => w'.cell? ⟨g, 0, none⟩ = some (.int .i64 s.up.win) ∧ w'.cell? ⟨g, 9, none⟩ = some vw) (go_keep) (first | (go_at_call 66; refine (stbBehind vw s.wanted _ S _ HH.out.wan.drew (by have := HS.out.wlen; omega)).mono ?_; rintro e w' ⟨v1, rfl, hl1, rfl⟩; obtain ⟨A1, cap1, rfl⟩ := list_slice hl1))
  all_goals
    have HL := Lib.hid hl1
    have hLen : (Tide.behindL s.wanted (now - s.up.win)).length ≤ 100000 := by have := Tide.behindL_length s.wanted (now - s.up.win); have := HS.out.wlen; omega
    have hMem := Lib.hid (fun m hm => (HS.out.wan m (Tide.behindL_mem (l := s.wanted) (at0 := now - s.up.win) m hm)).1)
    obtain ⟨L, hL⟩ : ∃ L, Tide.behindL s.wanted (now - s.up.win) = L := ⟨_, rfl⟩
    rw [hL] at HL hLen hMem ⊢
    have HLe := Lib.hid hL
    clear hl1 c0 c3 e1 hL
    go_wp2_with fail
    go_loopw [3, 30] (fun x3 i wr => ∃ k : Nat, k ≤ L.length ∧ i = .int .i64 k ∧ x3 = .int .i64 (Tide.minAll (L.take k) want) ∧ Below w.heap.size w wr) (fun _ i _ => L.length - (intOf i).toNat)
    case atStart => exact ⟨0, by omega, rfl, rfl, (Below.refl _ _).drew⟩
    case round =>
      obtain ⟨k, hk, rfl, rfl, hb⟩ := hrel
      by_cases hlt : k < L.length
      · obtain ⟨m, hm⟩ := Tide.get_some L hlt
        obtain ⟨b, off, cap', e, d0, d1⟩ := mark_at (w := w.drew) HL.out (wr := wr) ⟨hb.os, hb.tape, hb.output, hb.size, hb.block⟩ hm
        cases e
        have i0 : (0 : Int) ≤ (k : Int) := by omega
        have i1 : (k : Int) < (L.length : Int) := by omega
        have HF := Lib.hid (Tide.fold_snoc (f := fun (a : Int) (m : Tide.Mark) => min a m.2) (x := want) hm)
        change Hid (Tide.minAll (L.take (k + 1)) want = min (Tide.minAll (L.take k) want) m.2) at HF
        generalize Tide.minAll (L.take k) want = a at HF ⊢
        have HB := Lib.hid (hb.alloc hb.size (.cells #[.int .i64 m.1, .int .i64 m.2] 96))
        clear hb hm
        by_cases hc : m.2 < a
        · go_wp2_with fail
          go_roundw
          case rel => exact ⟨k + 1, by omega, by go_num, by rw [HF.out, show min a m.2 = m.2 by omega], HB.out⟩
          case measure => simp [intOf]; omega
        · have hc' : a ≤ m.2 := by omega
          go_wp2_with fail
          go_roundw
          case rel => exact ⟨k + 1, by omega, by go_num, by rw [HF.out, show min a m.2 = a by omega], HB.out⟩
          case measure => simp [intOf]; omega
      · have hke : k = L.length := by omega
        subst hke
        rw [List.take_length]
        have hmb := Tide.minAll_bd L want w0 w1 hMem.out
        have HM1 := Lib.hid (show Tide.moreN s now have0 want = max (if s.up.limited then min (Tide.minAll L want) (Tide.baseUp s now have0 + max s.up.pods (Tide.ceilc (Tide.baseUp s now have0 * s.up.pct) 100)) else Tide.minAll L want) have0 by unfold Tide.moreN; rw [HLe.out])
        generalize Tide.minAll L want = a at HM1 hmb ⊢
        obtain ⟨a0, a1⟩ := hmb
        have h2 := HH.out.below hb
        have d0 := h2.head.here (i := 0) rfl; have d1 := h2.head.here (i := 1) rfl; have d2 := h2.head.here (i := 2) rfl; have d3 := h2.head.here (i := 3) rfl
        have H2 := Lib.hid h2; have HB := Lib.hid hb
        clear h2 hb
        go_wp2_with fail
        refine (stbLimited s.up _).mono ?_
        rintro e w2 ⟨rfl, hb2⟩
        have hB2 := HB.out.trans (hb2.mono HB.out.size)
        have h3 := HH.out.below hB2
        clear d0 d1 d2 d3 hb2
        cases hlim : s.up.limited
        · have HF := Lib.hid (show LongPost w (Tide.moreN s now have0 want) (.returned (.int .i64 (max a have0))) w2 from ⟨by rw [HM1.out, hlim]; rfl, hB2⟩)
          clear h3 hB2 hlim
          by_cases hc : a < have0
          · rw [show max a have0 = have0 by omega] at HF
            go_wp2_with fail
            go_ret
            exact HF.out
          · rw [show max a have0 = a by omega] at HF
            have hc' : have0 ≤ a := by omega
            go_wp2_with fail
            go_ret
            exact HF.out
        · have d3 : w2.cell? ⟨g, 3, none⟩ = some (.int .i64 s.up.per) := h3.head.here rfl
          have d10 : w2.cell? ⟨g, 10, none⟩ = some vm := h3.head.here rfl
          have H3 := Lib.hid h3; have HB2 := Lib.hid hB2
          have e1 : IntKind.i64.wrap (now - s.up.per) = now - s.up.per := IntWalk.i64_in _ (by omega)
          have HLM := Lib.hid hlim
          clear h3 hB2 hlim
          go_wp2_with fail
          go_region_held3 (fun w' => w'.cell? ⟨g, 3, none⟩ = some (.int .i64 s.up.per) ∧ w'.cell? ⟨g, 10, none⟩ = some vm) (go_keep) (first | (go_at_call 66; refine (stbBehind vm s.moved _ S _ H3.out.mov.drew (by have := HS.out.mlen; omega)).mono ?_; rintro e w' ⟨v2, rfl, hl2, rfl⟩; obtain ⟨A2, cap2, rfl⟩ := list_slice hl2))
          all_goals
            have HL2 := Lib.hid hl2
            have hLen2 : (Tide.behindL s.moved (now - s.up.per)).length ≤ 100000 := by have := Tide.behindL_length s.moved (now - s.up.per); have := HS.out.mlen; omega
            have hMem2 := Lib.hid (fun m hm => (HS.out.mov m (Tide.behindL_mem (l := s.moved) (at0 := now - s.up.per) m hm)).1)
            obtain ⟨M, hM⟩ : ∃ M, Tide.behindL s.moved (now - s.up.per) = M := ⟨_, rfl⟩
            rw [hM] at HL2 hLen2 hMem2 ⊢
            have HMe := Lib.hid hM
            clear hl2 d3 d10 e1 hM
            go_wp2_with fail
            go_loopw [11, 57] (fun x3 i wr => ∃ k : Nat, k ≤ M.length ∧ i = .int .i64 k ∧ x3 = .int .i64 (Tide.sumUp (M.take k) 0) ∧ Below w2.heap.size w2 wr) (fun _ i _ => M.length - (intOf i).toNat)
            case atStart => exact ⟨0, by omega, rfl, rfl, (Below.refl _ _).drew⟩
            case round =>
              obtain ⟨k, hk, rfl, rfl, hb⟩ := hrel
              by_cases hlt : k < M.length
              · obtain ⟨m, hm⟩ := Tide.get_some M hlt
                obtain ⟨b, off, cap', e, d0, d1⟩ := mark_at (w := w2.drew) HL2.out (wr := wr) ⟨hb.os, hb.tape, hb.output, hb.size, hb.block⟩ hm
                cases e
                have i0 : (0 : Int) ≤ (k : Int) := by omega
                have i1 : (k : Int) < (M.length : Int) := by omega
                have hmb := hMem2.out m (List.mem_of_getElem? hm)
                have hsb := Tide.sumUp_bd (M.take k) 0 (fun m hm => hMem2.out m (List.mem_of_mem_take hm))
                have hkl : ((M.take k).length : Int) ≤ 100000 := by rw [List.length_take]; omega
                have HF := Lib.hid (Tide.fold_snoc (f := fun (a : Int) (m : Tide.Mark) => a + max m.2 0) (x := 0) hm)
                change Hid (Tide.sumUp (M.take (k + 1)) 0 = Tide.sumUp (M.take k) 0 + max m.2 0) at HF
                generalize Tide.sumUp (M.take k) 0 = t at HF hsb ⊢
                have t0 : 0 ≤ t := hsb.1
                have t1 : t ≤ 5000000 := by omega
                obtain ⟨m0, m1⟩ := hmb
                have HB := Lib.hid (hb.alloc hb.size (.cells #[.int .i64 m.1, .int .i64 m.2] 96))
                clear hb hm hsb hkl
                by_cases hc : m.2 < 0
                · go_wp2_with fail
                  go_roundw
                  case rel => exact ⟨k + 1, by omega, by go_num, by rw [HF.out, show t + max m.2 0 = t by omega], HB.out⟩
                  case measure => simp [intOf]; omega
                · have hc' : 0 ≤ m.2 := by omega
                  go_wp2_with fail
                  go_roundw
                  case rel => exact ⟨k + 1, by omega, by go_num, by rw [HF.out, show t + max m.2 0 = t + m.2 by omega], HB.out⟩
                  case measure => simp [intOf]; omega
              · have hke : k = M.length := by omega
                subst hke
                rw [List.take_length]
                have hsb := Tide.sumUp_bd M 0 hMem2.out
                have HBu := Lib.hid (show Tide.baseUp s now have0 = max (have0 - Tide.sumUp M 0) 0 by unfold Tide.baseUp; rw [HMe.out])
                generalize Tide.sumUp M 0 = t at HBu hsb ⊢
                have t0 : 0 ≤ t := hsb.1
                have t1 : t ≤ 5000000 := by omega
                have HB3 := Lib.hid (HB2.out.trans (hb.mono HB2.out.size))
                have h4 := H3.out.below hb
                have d1 : wr.cell? ⟨g, 1, none⟩ = some (.int .i64 s.up.pods) := h4.head.here rfl
                have d2 : wr.cell? ⟨g, 2, none⟩ = some (.int .i64 s.up.pct) := h4.head.here rfl
                clear hb h4 hsb
                go_upto_region 13 with fail
                go_cut [14] (fun s14 wx => s14 = .int .i64 (max (have0 - t) 0) ∧ wx = wr)
                case first =>
                  by_cases hc : have0 - t < 0
                  · go_wp2_with fail
                    go_meet
                    exact ⟨by rw [show max (have0 - t) 0 = 0 by omega], rfl⟩
                  · have hc' : 0 ≤ have0 - t := by omega
                    go_wp2_with fail
                    go_meet
                    exact ⟨by rw [show max (have0 - t) 0 = have0 - t by omega], rfl⟩
                case rest =>
                  obtain ⟨rfl, rfl⟩ := hcut
                  have B0 : 0 ≤ max (have0 - t) 0 := by omega
                  have B1 : max (have0 - t) 0 ≤ 50 := by omega
                  generalize max (have0 - t) 0 = B at HBu B0 B1 ⊢
                  obtain ⟨q0, q1⟩ := Tide.mul_bd B0 B1 u4 u5
                  have q2 : B * s.up.pct ≤ 5000000 := by omega
                  clear q1
                  go_wp2_with fail
                  refine (numCeil_yes _ _ _ (by omega)).mono ?_
                  rintro e w' ⟨rfl, rfl⟩
                  obtain ⟨z0, z1⟩ := Tide.ceilc_bd (B * s.up.pct)
                  have HFn := Lib.hid (show ∀ x, x = max (min a (B + max s.up.pods (Tide.ceilc (B * s.up.pct) 100))) have0 → LongPost w (Tide.moreN s now have0 want) (.returned (.int .i64 x)) _ from fun x hx => ⟨by rw [HM1.out, HLM.out, HBu.out, hx]; rfl, HB3.out⟩)
                  generalize Tide.ceilc (B * s.up.pct) 100 = C at HFn z0 z1 ⊢
                  clear HM1 HBu q0 q2
                  go_wp2_with fail
                  all_goals
                    go_ret
                    exact HFn.out _ (by omega)
end Go.Proofs.Ytcnoapogeohmkaa


namespace Go.Proofs.Ytcnoapogeohmkaa
open Go.RowKit
set_option linter.unusedVariables false
set_option maxRecDepth 100000 in
set_option maxHeartbeats 6400000 in
theorem stbFewer (S : Nat → Prop) (g : Nat) (s : Tide.Stb) (vw vm : Value) (now have0 want : Int) (w : World) (j : Nat) (h : StbAt 94 96 S w g s vw vm) (hs : s.ok j) (hj : j ≤ 100000) (n0 : 0 ≤ now) (n1 : now ≤ 1099511627776) (h0 : 0 ≤ have0) (h1 : have0 ≤ 50) (w0 : 0 ≤ want) (w1 : want ≤ 50) :
    Calls Try.prog 48 #[.pointer (some ⟨g, 0, none⟩), .int .i64 now, .int .i64 have0, .int .i64 want] w (LongPost w (Tide.fewerN s now have0 want)) := by
  obtain ⟨⟨u0, u1⟩, ⟨u2, u3⟩, ⟨u4, u5⟩, ⟨u6, u7⟩⟩ := hs.down
  have c0 : w.cell? ⟨g, 4, none⟩ = some (.int .i64 s.down.win) := h.head.here rfl
  have c3 : w.cell? ⟨g, 9, none⟩ = some vw := h.head.here rfl
  have HH := Lib.hid h; have HS := Lib.hid hs
  have e1 : IntKind.i64.wrap (now - s.down.win) = now - s.down.win := IntWalk.i64_in _ (by omega)
  clear h hs
  go_enter Try.func48, Try.ntmps48
  go_wp2_with fail
  go_region_held3 (fun w' => w'.cell? ⟨g, 4, none⟩ = some (.int .i64 s.down.win) ∧ w'.cell? ⟨g, 9, none⟩ = some vw) (go_keep) (first | (go_at_call 66; refine (stbBehind vw s.wanted _ S _ HH.out.wan.drew (by have := HS.out.wlen; omega)).mono ?_; rintro e w' ⟨v1, rfl, hl1, rfl⟩; obtain ⟨A1, cap1, rfl⟩ := list_slice hl1))
  all_goals
    have HL := Lib.hid hl1
    have hLen : (Tide.behindL s.wanted (now - s.down.win)).length ≤ 100000 := by have := Tide.behindL_length s.wanted (now - s.down.win); have := HS.out.wlen; omega
    have hMem := Lib.hid (fun m hm => (HS.out.wan m (Tide.behindL_mem (l := s.wanted) (at0 := now - s.down.win) m hm)).1)
    obtain ⟨L, hL⟩ : ∃ L, Tide.behindL s.wanted (now - s.down.win) = L := ⟨_, rfl⟩
    rw [hL] at HL hLen hMem ⊢
    have HLe := Lib.hid hL
    clear hl1 c0 c3 e1 hL
    go_wp2_with fail
    go_loopw [3, 27] (fun x3 i wr => ∃ k : Nat, k ≤ L.length ∧ i = .int .i64 k ∧ x3 = .int .i64 (Tide.maxAll (L.take k) want) ∧ Below w.heap.size w wr) (fun _ i _ => L.length - (intOf i).toNat)
    case atStart => exact ⟨0, by omega, rfl, rfl, (Below.refl _ _).drew⟩
    case round =>
      obtain ⟨k, hk, rfl, rfl, hb⟩ := hrel
      by_cases hlt : k < L.length
      · obtain ⟨m, hm⟩ := Tide.get_some L hlt
        obtain ⟨b, off, cap', e, d0, d1⟩ := mark_at (w := w.drew) HL.out (wr := wr) ⟨hb.os, hb.tape, hb.output, hb.size, hb.block⟩ hm
        cases e
        have i0 : (0 : Int) ≤ (k : Int) := by omega
        have i1 : (k : Int) < (L.length : Int) := by omega
        have HF := Lib.hid (Tide.fold_snoc (f := fun (a : Int) (m : Tide.Mark) => max a m.2) (x := want) hm)
        change Hid (Tide.maxAll (L.take (k + 1)) want = max (Tide.maxAll (L.take k) want) m.2) at HF
        generalize Tide.maxAll (L.take k) want = a at HF ⊢
        have HB := Lib.hid (hb.alloc hb.size (.cells #[.int .i64 m.1, .int .i64 m.2] 96))
        clear hb hm
        by_cases hc : a < m.2
        · go_wp2_with fail
          go_roundw
          case rel => exact ⟨k + 1, by omega, by go_num, by rw [HF.out, show max a m.2 = m.2 by omega], HB.out⟩
          case measure => simp [intOf]; omega
        · have hc' : m.2 ≤ a := by omega
          go_wp2_with fail
          go_roundw
          case rel => exact ⟨k + 1, by omega, by go_num, by rw [HF.out, show max a m.2 = a by omega], HB.out⟩
          case measure => simp [intOf]; omega
      · have hke : k = L.length := by omega
        subst hke
        rw [List.take_length]
        have hmb := Tide.maxAll_bd L want w0 w1 hMem.out
        have HM1 := Lib.hid (show Tide.fewerN s now have0 want = min (if s.down.limited then max (Tide.maxAll L want) (Tide.baseDown s now have0 - max s.down.pods (Tide.sharec (Tide.baseDown s now have0) (10 * s.down.pct))) else Tide.maxAll L want) have0 by unfold Tide.fewerN; rw [HLe.out])
        generalize Tide.maxAll L want = a at HM1 hmb ⊢
        obtain ⟨a0, a1⟩ := hmb
        have h2 := HH.out.below hb
        have d0 := h2.head.here (i := 4) rfl; have d1 := h2.head.here (i := 5) rfl; have d2 := h2.head.here (i := 6) rfl; have d3 := h2.head.here (i := 7) rfl
        have H2 := Lib.hid h2; have HB := Lib.hid hb
        clear h2 hb
        go_wp2_with fail
        refine (stbLimited s.down _).mono ?_
        rintro e w2 ⟨rfl, hb2⟩
        have hB2 := HB.out.trans (hb2.mono HB.out.size)
        have h3 := HH.out.below hB2
        clear d0 d1 d2 d3 hb2
        cases hlim : s.down.limited
        · have HF := Lib.hid (show LongPost w (Tide.fewerN s now have0 want) (.returned (.int .i64 (min a have0))) w2 from ⟨by rw [HM1.out, hlim]; rfl, hB2⟩)
          clear h3 hB2 hlim
          by_cases hc : have0 < a
          · rw [show min a have0 = have0 by omega] at HF
            go_wp2_with fail
            go_ret
            exact HF.out
          · rw [show min a have0 = a by omega] at HF
            have hc' : a ≤ have0 := by omega
            go_wp2_with fail
            go_ret
            exact HF.out
        · have d3 : w2.cell? ⟨g, 7, none⟩ = some (.int .i64 s.down.per) := h3.head.here rfl
          have d10 : w2.cell? ⟨g, 10, none⟩ = some vm := h3.head.here rfl
          have H3 := Lib.hid h3; have HB2 := Lib.hid hB2
          have e1 : IntKind.i64.wrap (now - s.down.per) = now - s.down.per := IntWalk.i64_in _ (by omega)
          have HLM := Lib.hid hlim
          clear h3 hB2 hlim
          go_wp2_with fail
          go_region_held3 (fun w' => w'.cell? ⟨g, 7, none⟩ = some (.int .i64 s.down.per) ∧ w'.cell? ⟨g, 10, none⟩ = some vm) (go_keep) (first | (go_at_call 66; refine (stbBehind vm s.moved _ S _ H3.out.mov.drew (by have := HS.out.mlen; omega)).mono ?_; rintro e w' ⟨v2, rfl, hl2, rfl⟩; obtain ⟨A2, cap2, rfl⟩ := list_slice hl2))
          all_goals
            have HL2 := Lib.hid hl2
            have hLen2 : (Tide.behindL s.moved (now - s.down.per)).length ≤ 100000 := by have := Tide.behindL_length s.moved (now - s.down.per); have := HS.out.mlen; omega
            have hMem2 := Lib.hid (fun m hm => (HS.out.mov m (Tide.behindL_mem (l := s.moved) (at0 := now - s.down.per) m hm)).1)
            obtain ⟨M, hM⟩ : ∃ M, Tide.behindL s.moved (now - s.down.per) = M := ⟨_, rfl⟩
            rw [hM] at HL2 hLen2 hMem2 ⊢
            have HMe := Lib.hid hM
            clear hl2 d3 d10 e1 hM
            go_wp2_with fail
            go_loopw [11, 55] (fun x3 i wr => ∃ k : Nat, k ≤ M.length ∧ i = .int .i64 k ∧ x3 = .int .i64 (Tide.sumDown (M.take k) have0) ∧ Below w2.heap.size w2 wr) (fun _ i _ => M.length - (intOf i).toNat)
            case atStart => exact ⟨0, by omega, rfl, rfl, (Below.refl _ _).drew⟩
            case round =>
              obtain ⟨k, hk, rfl, rfl, hb⟩ := hrel
              by_cases hlt : k < M.length
              · obtain ⟨m, hm⟩ := Tide.get_some M hlt
                obtain ⟨b, off, cap', e, d0, d1⟩ := mark_at (w := w2.drew) HL2.out (wr := wr) ⟨hb.os, hb.tape, hb.output, hb.size, hb.block⟩ hm
                cases e
                have i0 : (0 : Int) ≤ (k : Int) := by omega
                have i1 : (k : Int) < (M.length : Int) := by omega
                have hmb := hMem2.out m (List.mem_of_getElem? hm)
                have hsb := Tide.sumDown_bd (M.take k) have0 (fun m hm => hMem2.out m (List.mem_of_mem_take hm))
                have hkl : ((M.take k).length : Int) ≤ 100000 := by rw [List.length_take]; omega
                have HF := Lib.hid (Tide.fold_snoc (f := fun (a : Int) (m : Tide.Mark) => a + max (-m.2) 0) (x := have0) hm)
                change Hid (Tide.sumDown (M.take (k + 1)) have0 = Tide.sumDown (M.take k) have0 + max (-m.2) 0) at HF
                generalize Tide.sumDown (M.take k) have0 = t at HF hsb ⊢
                have t0 : 0 ≤ t := by omega
                have t1 : t ≤ 5000050 := by omega
                obtain ⟨m0, m1⟩ := hmb
                have HB := Lib.hid (hb.alloc hb.size (.cells #[.int .i64 m.1, .int .i64 m.2] 96))
                clear hb hm hsb hkl
                by_cases hc : -m.2 < 0
                · go_wp2_with fail
                  go_roundw
                  case rel => exact ⟨k + 1, by omega, by go_num, by rw [HF.out, show t + max (-m.2) 0 = t by omega], HB.out⟩
                  case measure => simp [intOf]; omega
                · have hc' : 0 ≤ -m.2 := by omega
                  go_wp2_with fail
                  go_roundw
                  case rel => exact ⟨k + 1, by omega, by go_num, by rw [HF.out, show t + max (-m.2) 0 = t + -m.2 by omega], HB.out⟩
                  case measure => simp [intOf]; omega
              · have hke : k = M.length := by omega
                subst hke
                rw [List.take_length]
                have hsb := Tide.sumDown_bd M have0 hMem2.out
                have HBu := Lib.hid (show Tide.baseDown s now have0 = Tide.sumDown M have0 by unfold Tide.baseDown; rw [HMe.out])
                generalize Tide.sumDown M have0 = B at HBu hsb ⊢
                have t0 : 0 ≤ B := by omega
                have t1 : B ≤ 5000050 := by omega
                have HB3 := Lib.hid (HB2.out.trans (hb.mono HB2.out.size))
                have h4 := H3.out.below hb
                have d1 : wr.cell? ⟨g, 5, none⟩ = some (.int .i64 s.down.pods) := h4.head.here rfl
                have d2 : wr.cell? ⟨g, 6, none⟩ = some (.int .i64 s.down.pct) := h4.head.here rfl
                obtain ⟨z0, z1⟩ := Tide.sharec_bd B (10 * s.down.pct)
                have HFn := Lib.hid (show ∀ x, x = min (max a (B - max s.down.pods (Tide.sharec B (10 * s.down.pct)))) have0 → ∀ w', wr = w' ∨ wr.drew = w' → LongPost w (Tide.fewerN s now have0 want) (.returned (.int .i64 x)) w' from fun x hx w' hw' => ⟨by rw [HM1.out, HLM.out, HBu.out, hx]; rfl, by rcases hw' with rfl | rfl; exact HB3.out; exact HB3.out.drew⟩)
                clear hb h4 hsb HM1 HBu
                have hmul : IntKind.i64.wrap (10 * s.down.pct) = 10 * s.down.pct := IntWalk.i64_in _ (by omega)
                by_cases hp : s.down.pods < Tide.sharec B (10 * s.down.pct)
                · have hw1 : IntKind.i64.wrap (B - Tide.sharec B (10 * s.down.pct)) = B - Tide.sharec B (10 * s.down.pct) := IntWalk.i64_in _ (by omega)
                  by_cases hq : a < B - Tide.sharec B (10 * s.down.pct)
                  · go_wp2_with fail
                    go_region_held3 (fun w' => w'.cell? ⟨g, 5, none⟩ = some (.int .i64 s.down.pods) ∧ w'.cell? ⟨g, 6, none⟩ = some (.int .i64 s.down.pct)) (go_keep) (first | (go_at_call 65; refine (numShare _ _ _).mono ?_; rintro e w' ⟨rfl, rfl⟩))
                    all_goals
                      clear hmul hw1
                      go_wp2_with fail
                      all_goals
                        go_ret
                        exact HFn.out _ (by omega) _ (.inr rfl)
                  · have hq' : B - Tide.sharec B (10 * s.down.pct) ≤ a := by omega
                    go_wp2_with fail
                    go_region_held3 (fun w' => w'.cell? ⟨g, 5, none⟩ = some (.int .i64 s.down.pods) ∧ w'.cell? ⟨g, 6, none⟩ = some (.int .i64 s.down.pct)) (go_keep) (first | (go_at_call 65; refine (numShare _ _ _).mono ?_; rintro e w' ⟨rfl, rfl⟩))
                    all_goals
                      clear hmul hw1
                      go_wp2_with fail
                      all_goals
                        go_ret
                        exact HFn.out _ (by omega) _ (.inr rfl)
                · have hp' : Tide.sharec B (10 * s.down.pct) ≤ s.down.pods := by omega
                  have hw1 : IntKind.i64.wrap (B - s.down.pods) = B - s.down.pods := IntWalk.i64_in _ (by omega)
                  by_cases hq : a < B - s.down.pods
                  · go_wp2_with fail
                    go_region_held3 (fun w' => w'.cell? ⟨g, 5, none⟩ = some (.int .i64 s.down.pods) ∧ w'.cell? ⟨g, 6, none⟩ = some (.int .i64 s.down.pct)) (go_keep) (first | (go_at_call 65; refine (numShare _ _ _).mono ?_; rintro e w' ⟨rfl, rfl⟩))
                    all_goals
                      clear hmul hw1
                      go_wp2_with fail
                      all_goals
                        go_ret
                        exact HFn.out _ (by omega) _ (.inr rfl)
                  · have hq' : B - s.down.pods ≤ a := by omega
                    go_wp2_with fail
                    go_region_held3 (fun w' => w'.cell? ⟨g, 5, none⟩ = some (.int .i64 s.down.pods) ∧ w'.cell? ⟨g, 6, none⟩ = some (.int .i64 s.down.pct)) (go_keep) (first | (go_at_call 65; refine (numShare _ _ _).mono ?_; rintro e w' ⟨rfl, rfl⟩))
                    all_goals
                      clear hmul hw1
                      go_wp2_with fail
                      all_goals
                        go_ret
                        exact HFn.out _ (by omega) _ (.inr rfl)
end Go.Proofs.Ytcnoapogeohmkaa


namespace Go.Proofs.Ytcnoapogeohmkaa
open Go.RowKit
set_option linter.unusedVariables false

theorem info_mark : (Try.prog.info? 96).map (fun i => (i.zero, i.size, i.bytes)) = some (some (.agg #[.int .i64 0, .int .i64 0]), 2, 16) := by kernel_rfl

theorem StbAt.up {T TM : TypeId} {S : Nat → Prop} {w0 w : World} {g : Nat} {s : Tide.Stb} {vw vm : Value} (h : StbAt T TM S w g s vw vm) : StbAt T TM (Tide.Plus S w0 w) w g s vw vm :=
  ⟨h.head, h.wan.mono fun _ _ hb => .inl hb, h.mov.mono fun _ _ hb => .inl hb, h.apart, .inl h.own, fun b hb => by rcases hb with hb | hb; exact h.lim b hb; exact hb.2⟩
theorem new_cells_in {w : World} {cs : Array Value} {T : TypeId} {H : Nat} (hH : w.heap.size = H) : ∀ (j : Nat) (u : Value), cs.toList[j]? = some u → (w.alloc (.cells cs T)).cell? ((⟨H, 0, none⟩ : Addr).add j) = some u := by
  subst hH; exact Tide.new_cells w cs T
theorem StbAt.mono {T TM : TypeId} {S S' : Nat → Prop} {w : World} {g : Nat} {s : Tide.Stb} {vw vm : Value} (h : StbAt T TM S w g s vw vm) (hs : ∀ b, b < w.heap.size → S b → S' b) (hl : ∀ b, S' b → b < w.heap.size) : StbAt T TM S' w g s vw vm :=
  ⟨h.head, h.wan.mono hs, h.mov.mono hs, h.apart, hs g h.head.inside h.own, hl⟩
/-- the time is stored -/
theorem StbAt.tick {T TM : TypeId} {S : Nat → Prop} {w : World} {g : Nat} {s : Tide.Stb} {vw vm : Value} (h : StbAt T TM S w g s vw vm) (hT : T ≠ TM) (x : Int) : StbAt T TM S (w.setCell ⟨g, 8, none⟩ (.int .i64 x)) g { s with last := x } vw vm :=
  ⟨h.head.put 8 (.int .i64 x), h.wan.aside (p := ⟨g, 8, none⟩) (h.wan.apartAt h.head (Ne.symm hT)) _, h.mov.aside (p := ⟨g, 8, none⟩) (h.mov.apartAt h.head (Ne.symm hT)) _, h.apart, h.own, fun b hb => by rw [Tide.size_put]; exact h.lim b hb⟩
theorem StbAt.alloc {T TM : TypeId} {S : Nat → Prop} {w : World} {g : Nat} {s : Tide.Stb} {vw vm : Value} (h : StbAt T TM S w g s vw vm) (o : Obj) : StbAt T TM S (w.alloc o) g s vw vm :=
  ⟨h.head.alloc o, h.wan.alloc o, h.mov.alloc o, h.apart, h.own, fun b hb => by simp; have := h.lim b hb; omega⟩
theorem StbAt.drew {T TM : TypeId} {S : Nat → Prop} {w : World} {g : Nat} {s : Tide.Stb} {vw vm : Value} (h : StbAt T TM S w g s vw vm) : StbAt T TM S w.drew g s vw vm :=
  ⟨h.head.drew, h.wan.drew, h.mov.drew, h.apart, h.own, h.lim⟩
theorem grown_other {S : Nat → Prop} {w w1 : World} {T : TypeId} {k : Nat} {v : Value} {n : Nat} {xs : List Value} {row : Option Nat} (h : Tide.OwnRow S w T k v n xs) (hg : w.grownBy w1 row) (hn : ∀ b, v.ownBlock = some b → row ≠ some b) : Tide.OwnRow S w1 T k v n xs := by
  refine ⟨h.1, ?_⟩
  rcases h.2 with hz | ⟨g, cap, e, hS, h3, h4, cur, h5, h6⟩
  · exact .inl hz
  · exact .inr ⟨g, cap, e, hS, h3, h4, cur, h5.grown hg (hn g (by rw [e]; rfl)), h6⟩
/-- a mark is appended to what was wanted -/
theorem StbAt.app1 {T TM : TypeId} {S : Nat → Prop} {w w1 : World} {g b cap : Nat} {s : Tide.Stb} {vw vm : Value} {m : Tide.Mark} (h : StbAt T TM S w g s vw vm) (hT : T ≠ TM)
    (h1 : w1.ownsRow 0 TM 2 (.slice (some ⟨b, 0, none⟩) (s.wanted.length + 1) cap) (s.wanted.length + 1) (s.wanted.flatMap Tide.encM ++ Tide.encM m)) (hg : w.grownBy w1 vw.ownBlock) (ho : vw.ownBlock = some b ∨ b = w.heap.size) (hlt : b < w1.heap.size) :
    (w1.cell? ⟨g, 9, none⟩ = some vw ∧ w1.frozen? ⟨g, 9, none⟩ = false) ∧
    StbAt T TM (Tide.Plus S w w1) (w1.setCell ⟨g, 9, none⟩ (.slice (some ⟨b, 0, none⟩) (s.wanted.length + 1) cap)) g { s with wanted := s.wanted ++ [m] } (.slice (some ⟨b, 0, none⟩) (s.wanted.length + 1) cap) vm ∧
    Tide.Chg S w (w1.setCell ⟨g, 9, none⟩ (.slice (some ⟨b, 0, none⟩) (s.wanted.length + 1) cap)) := by
  obtain ⟨r1, r2⟩ := h.wan.app h1 hg ho hlt
  have hA := h.head.grown hg (fun e => h.wan.apartAt h.head (Ne.symm hT) g e rfl)
  have hm := grown_other h.mov hg (fun b' hb' e => h.apart b' e hb')
  have e1 : (s.wanted ++ [m]).length = s.wanted.length + 1 := by simp
  have e2 : (s.wanted ++ [m]).flatMap Tide.encM = s.wanted.flatMap Tide.encM ++ Tide.encM m := by simp
  refine ⟨⟨hA.here rfl, hA.soft 9⟩, ⟨hA.put 9 _, ?_, ?_, ?_, .inl h.own, fun c hc => by rw [Tide.size_put]; exact Tide.Plus.lim h.lim r2.size c hc⟩, r2.put (.inl h.own) _⟩
  · rw [e1, e2]; exact r1.aside (p := ⟨g, 9, none⟩) (r1.apartAt hA (Ne.symm hT)) _
  · exact (hm.mono fun _ _ hb => .inl hb).aside (p := ⟨g, 9, none⟩) (hm.apartAt hA (Ne.symm hT)) _
  · intro c hc e
    simp [Value.ownBlock] at hc
    subst hc
    rcases ho with ho | ho
    · exact h.apart b ho e
    · have := (h.mov.block b e).2; omega
/-- a mark is appended to what was moved -/
theorem StbAt.app2 {T TM : TypeId} {S : Nat → Prop} {w w1 : World} {g b cap : Nat} {s : Tide.Stb} {vw vm : Value} {m : Tide.Mark} (h : StbAt T TM S w g s vw vm) (hT : T ≠ TM)
    (h1 : w1.ownsRow 0 TM 2 (.slice (some ⟨b, 0, none⟩) (s.moved.length + 1) cap) (s.moved.length + 1) (s.moved.flatMap Tide.encM ++ Tide.encM m)) (hg : w.grownBy w1 vm.ownBlock) (ho : vm.ownBlock = some b ∨ b = w.heap.size) (hlt : b < w1.heap.size) :
    (w1.cell? ⟨g, 10, none⟩ = some vm ∧ w1.frozen? ⟨g, 10, none⟩ = false) ∧
    StbAt T TM (Tide.Plus S w w1) (w1.setCell ⟨g, 10, none⟩ (.slice (some ⟨b, 0, none⟩) (s.moved.length + 1) cap)) g { s with moved := s.moved ++ [m] } vw (.slice (some ⟨b, 0, none⟩) (s.moved.length + 1) cap) ∧
    Tide.Chg S w (w1.setCell ⟨g, 10, none⟩ (.slice (some ⟨b, 0, none⟩) (s.moved.length + 1) cap)) := by
  obtain ⟨r1, r2⟩ := h.mov.app h1 hg ho hlt
  have hA := h.head.grown hg (fun e => h.mov.apartAt h.head (Ne.symm hT) g e rfl)
  have hm := grown_other h.wan hg (fun b' hb' e => h.apart b' hb' e)
  have e1 : (s.moved ++ [m]).length = s.moved.length + 1 := by simp
  have e2 : (s.moved ++ [m]).flatMap Tide.encM = s.moved.flatMap Tide.encM ++ Tide.encM m := by simp
  refine ⟨⟨hA.here rfl, hA.soft 10⟩, ⟨hA.put 10 _, ?_, ?_, ?_, .inl h.own, fun c hc => by rw [Tide.size_put]; exact Tide.Plus.lim h.lim r2.size c hc⟩, r2.put (.inl h.own) _⟩
  · exact (hm.mono fun _ _ hb => .inl hb).aside (p := ⟨g, 10, none⟩) (hm.apartAt hA (Ne.symm hT)) _
  · rw [e1, e2]; exact r1.aside (p := ⟨g, 10, none⟩) (r1.apartAt hA (Ne.symm hT)) _
  · intro c hc e
    simp [Value.ownBlock] at e
    subst e
    rcases ho with ho | ho
    · exact h.apart b hc ho
    · have := (h.wan.block b hc).2; omega

def SettlePost (T TM : TypeId) (S : Nat → Prop) (w : World) (g : Nat) (s : Tide.Stb) (now have0 want : Int) (e : Ending) (w' : World) : Prop :=
  e = .returned (.tuple #[.int .i64 (Tide.settleN s now have0 want), .int .i64 (Tide.settleE s now have0 want)]) ∧ (∃ vw vm, StbAt T TM (Tide.Plus S w w') w' g (Tide.settleS s now have0 want) vw vm) ∧ Tide.Chg S w w'
theorem settle_no {T TM : TypeId} {S : Nat → Prop} {w : World} {g : Nat} {s : Tide.Stb} {vw vm : Value} {now have0 want : Int} (h : StbAt T TM S w g s vw vm) (hn : Tide.settleOk s now have0 want = false) : SettlePost T TM S w g s now have0 want (.returned (.tuple #[.int .i64 0, .int .i64 1])) w := by
  refine ⟨by simp [Tide.settleN, Tide.settleE, hn], ⟨vw, vm, ?_⟩, Tide.Chg.refl _ _⟩
  have e : Tide.settleS s now have0 want = s := by unfold Tide.settleS; rw [hn]; rfl
  rw [e]; exact h.up
theorem plus_up {T TM : TypeId} {S : Nat → Prop} {w w1 w2 : World} {g : Nat} {s : Tide.Stb} {vw vm : Value} (h : StbAt T TM (Tide.Plus (Tide.Plus S w w1) w1 w2) w2 g s vw vm) (h1 : w.heap.size ≤ w1.heap.size) (h2 : w1.heap.size ≤ w2.heap.size) : StbAt T TM (Tide.Plus S w w2) w2 g s vw vm :=
  ⟨h.head, h.wan.mono fun _ _ hb => hb.trans h1 h2, h.mov.mono fun _ _ hb => hb.trans h1 h2, h.apart, h.own.trans h1 h2, fun b hb => by
    rcases hb with hb | hb
    · exact h.lim b (.inl (.inl hb))
    · exact hb.2⟩
/-- behind the first append of Settle -/
theorem seen_at {T TM : TypeId} {S : Nat → Prop} {w w1 : World} {g b cap : Nat} {s : Tide.Stb} {vw vm : Value} {now want : Int} {o : Obj} (h : StbAt T TM S w g s vw vm) (hT : T ≠ TM)
    (h1 : w1.ownsRow 0 TM 2 (.slice (some ⟨b, 0, none⟩) (s.wanted.length + 1) cap) (s.wanted.length + 1) (s.wanted.flatMap Tide.encM ++ [.int .i64 now, .int .i64 want])) (hg : ((w.setCell ⟨g, 8, none⟩ (.int .i64 now)).alloc o).grownBy w1 vw.ownBlock) (ho : vw.ownBlock = some b ∨ b = w.heap.size + 1) (hlt : b < w1.heap.size) :
    (w1.cell? ⟨g, 9, none⟩ = some vw ∧ w1.frozen? ⟨g, 9, none⟩ = false) ∧
    StbAt T TM (Tide.Plus S w (w1.setCell ⟨g, 9, none⟩ (.slice (some ⟨b, 0, none⟩) (s.wanted.length + 1) cap))) (w1.setCell ⟨g, 9, none⟩ (.slice (some ⟨b, 0, none⟩) (s.wanted.length + 1) cap)) g (s.seen now want) (.slice (some ⟨b, 0, none⟩) (s.wanted.length + 1) cap) vm ∧
    Tide.Chg S w (w1.setCell ⟨g, 9, none⟩ (.slice (some ⟨b, 0, none⟩) (s.wanted.length + 1) cap)) := by
  have z : ((w.setCell ⟨g, 8, none⟩ (.int .i64 now)).alloc o).heap.size = w.heap.size + 1 := by simp [World.setCell]
  obtain ⟨q1, q2, q3⟩ := ((h.tick hT now).alloc o).app1 (m := (now, want)) hT h1 hg (ho.imp id (fun e => by rw [e, z])) hlt
  have z3 := q3.size
  refine ⟨q1, q2.mono (fun c hlt hb => ?_) (fun c hb => ?_), (((Tide.Chg.refl S w).put (p := ⟨g, 8, none⟩) (.inl h.own) _).alloc o).trans q3⟩
  · rcases hb with hb | hb
    · exact .inl hb
    · exact .inr ⟨by omega, hlt⟩
  · rcases hb with hb | hb
    · have := h.lim c hb; omega
    · exact hb.2
/-- behind the second append of Settle -/
theorem went_at {T TM : TypeId} {S : Nat → Prop} {w wr w1 : World} {g b cap : Nat} {s : Tide.Stb} {vw vm : Value} {now n : Int} {o : Obj} (h : StbAt T TM (Tide.Plus S w wr) wr g s vw vm) (hc : Tide.Chg S w wr) (hT : T ≠ TM)
    (h1 : w1.ownsRow 0 TM 2 (.slice (some ⟨b, 0, none⟩) (s.moved.length + 1) cap) (s.moved.length + 1) (s.moved.flatMap Tide.encM ++ [.int .i64 now, .int .i64 n])) (hg : (wr.alloc o).grownBy w1 vm.ownBlock) (ho : vm.ownBlock = some b ∨ b = wr.heap.size + 1) (hlt : b < w1.heap.size) :
    (w1.cell? ⟨g, 10, none⟩ = some vm ∧ w1.frozen? ⟨g, 10, none⟩ = false) ∧
    StbAt T TM (Tide.Plus S w (w1.setCell ⟨g, 10, none⟩ (.slice (some ⟨b, 0, none⟩) (s.moved.length + 1) cap))) (w1.setCell ⟨g, 10, none⟩ (.slice (some ⟨b, 0, none⟩) (s.moved.length + 1) cap)) g (s.went now n) vw (.slice (some ⟨b, 0, none⟩) (s.moved.length + 1) cap) ∧
    Tide.Chg S w (w1.setCell ⟨g, 10, none⟩ (.slice (some ⟨b, 0, none⟩) (s.moved.length + 1) cap)) := by
  have z : (wr.alloc o).heap.size = wr.heap.size + 1 := by simp
  obtain ⟨q1, q2, q3⟩ := (h.alloc o).app2 (m := (now, n)) hT h1 hg (ho.imp id (fun e => by rw [e, z])) hlt
  have z3 := q3.size; have z4 := hc.size
  refine ⟨q1, q2.mono (fun c hlt hb => ?_) (fun c hb => ?_), hc.plus (((Tide.Chg.refl _ wr).alloc o).trans q3)⟩
  · rcases hb with hb | hb
    · rcases hb with hb | hb
      · exact .inl hb
      · exact .inr ⟨hb.1, hlt⟩
    · exact .inr ⟨by omega, hlt⟩
  · rcases hb with hb | hb
    · have := h.lim c (.inl hb); omega
    · exact hb.2
theorem below_at {T TM : TypeId} {S : Nat → Prop} {w wr w1 : World} {g : Nat} {s : Tide.Stb} {vw vm : Value} (h : StbAt T TM (Tide.Plus S w wr) wr g s vw vm) (hc : Tide.Chg S w wr) (hb : Below wr.heap.size wr w1) : StbAt T TM (Tide.Plus S w w1) w1 g s vw vm ∧ Tide.Chg S w w1 := by
  have z := hb.size; have z2 := hc.size
  refine ⟨(h.below hb).mono (fun c _ hb' => hb'.up z) (fun c hb' => ?_), hc.step_below hb hc.size⟩
  rcases hb' with hb' | hb'
  · have := h.lim c (.inl hb'); omega
  · exact hb'.2
theorem settle_end {T TM : TypeId} {S : Nat → Prop} {w w' : World} {g : Nat} {s : Tide.Stb} {vw vm : Value} {now have0 want n : Int} (hk : Tide.settleOk s now have0 want = true) (hn : n = Tide.settleN0 (s.seen now want) now have0 want) (hc : Tide.Chg S w w')
    (h : StbAt T TM (Tide.Plus S w w') w' g (if n = have0 then s.seen now want else (s.seen now want).went now (n - have0)) vw vm) : SettlePost T TM S w g s now have0 want (.returned (.tuple #[.int .i64 n, .int .i64 0])) w' := by
  subst hn
  refine ⟨by simp [Tide.settleN, Tide.settleE, hk], ⟨vw, vm, ?_⟩, hc⟩
  have e : Tide.settleS s now have0 want = (if Tide.settleN0 (s.seen now want) now have0 want = have0 then s.seen now want else (s.seen now want).went now (Tide.settleN0 (s.seen now want) now have0 want - have0)) := by unfold Tide.settleS; rw [hk]; rfl
  rw [e]; exact h
theorem Stb.ok_seen {s : Tide.Stb} {j : Nat} {now have0 want : Int} (h : s.ok j) (hk : Tide.settleOk s now have0 want = true) : (s.seen now want).ok (j + 1) := by
  unfold Tide.settleOk at hk
  simp only [Bool.and_eq_true, decide_eq_true_eq] at hk
  obtain ⟨⟨⟨a1, a2⟩, a3, a4⟩, a5, a6⟩ := hk
  have l0 := h.last0
  refine ⟨h.up, h.down, by show 0 ≤ now; omega, a2, ?_, ?_, ?_, h.msort, by show (s.wanted ++ [_]).length ≤ _; simp; exact h.wlen, Nat.le_succ_of_le h.mlen⟩
  · intro m hm
    rcases List.mem_append.1 hm with hm | hm
    · have := h.wan m hm
      exact ⟨this.1, this.2.1, by show m.1 ≤ now; omega⟩
    · have : m = (now, want) := by simpa using hm
      subst this
      exact ⟨⟨a5, a6⟩, by simp only; omega, by show now ≤ now; omega⟩
  · intro m hm
    have := h.mov m hm
    exact ⟨this.1, this.2.1, by show m.1 ≤ now; omega⟩
  · show (s.wanted ++ [(now, want)]).Pairwise _
    rw [List.pairwise_append]
    refine ⟨h.wsort, by simp, fun a ha b hb => ?_⟩
    have : b = (now, want) := by simpa using hb
    subst this
    have := h.wan a ha
    simp only; omega
theorem Stb.ok_went {s : Tide.Stb} {j : Nat} {n : Int} (h : s.ok j) (h0 : -50 ≤ n) (h1 : n ≤ 50) (hj : s.moved.length + 1 ≤ j) : (s.went s.last n).ok j := by
  refine ⟨h.up, h.down, h.last0, h.last1, h.wan, ?_, h.wsort, ?_, h.wlen, by show (s.moved ++ [_]).length ≤ _; simpa using hj⟩
  · intro m hm
    rcases List.mem_append.1 hm with hm | hm
    · exact h.mov m hm
    · have : m = (s.last, n) := by simpa using hm
      subst this
      exact ⟨⟨h0, h1⟩, h.last0, by show s.last ≤ s.last; omega⟩
  · show (s.moved ++ [(s.last, n)]).Pairwise _
    rw [List.pairwise_append]
    refine ⟨h.msort, by simp, fun a ha b hb => ?_⟩
    have : b = (s.last, n) := by simpa using hb
    subst this
    exact (h.mov a ha).2.2
theorem moreN_bd (s : Tide.Stb) (now have0 want : Int) (h : ∀ m ∈ s.wanted, 0 ≤ m.2 ∧ m.2 ≤ 50) (h0 : 0 ≤ have0) (h1 : have0 ≤ 50) (w0 : 0 ≤ want) (w1 : want ≤ 50) : have0 ≤ Tide.moreN s now have0 want ∧ Tide.moreN s now have0 want ≤ 50 := by
  have := Tide.minAll_bd (Tide.behindL s.wanted (now - s.up.win)) want w0 w1 (fun m hm => h m (Tide.behindL_mem m hm))
  unfold Tide.moreN
  simp only
  split <;> omega
theorem fewerN_bd (s : Tide.Stb) (now have0 want : Int) (h : ∀ m ∈ s.wanted, 0 ≤ m.2 ∧ m.2 ≤ 50) (h0 : 0 ≤ have0) (h1 : have0 ≤ 50) (w0 : 0 ≤ want) (w1 : want ≤ 50) : 0 ≤ Tide.fewerN s now have0 want ∧ Tide.fewerN s now have0 want ≤ have0 := by
  have := Tide.maxAll_bd (Tide.behindL s.wanted (now - s.down.win)) want w0 w1 (fun m hm => h m (Tide.behindL_mem m hm))
  unfold Tide.fewerN
  simp only
  split <;> omega
theorem settleN0_bd (s : Tide.Stb) (now have0 want : Int) (h : ∀ m ∈ s.wanted, 0 ≤ m.2 ∧ m.2 ≤ 50) (h0 : 0 ≤ have0) (h1 : have0 ≤ 50) (w0 : 0 ≤ want) (w1 : want ≤ 50) : 0 ≤ Tide.settleN0 s now have0 want ∧ Tide.settleN0 s now have0 want ≤ 50 := by
  have a := moreN_bd s now have0 want h h0 h1 w0 w1
  have b := fewerN_bd s now have0 want h h0 h1 w0 w1
  unfold Tide.settleN0
  split
  · omega
  · split <;> omega

set_option maxRecDepth 100000 in
set_option maxHeartbeats 6400000 in
theorem stbSettle (S : Nat → Prop) (g : Nat) (s : Tide.Stb) (vw vm : Value) (now have0 want : Int) (w : World) (j : Nat) (h : StbAt 94 96 S w g s vw vm) (hs : s.ok j) (hj : j ≤ 90000) :
    Calls Try.prog 32 #[.pointer (some ⟨g, 0, none⟩), .int .i64 now, .int .i64 have0, .int .i64 want] w (SettlePost 94 96 S w g s now have0 want) := by
  have c8 : w.cell? ⟨g, 8, none⟩ = some (.int .i64 s.last) := h.head.here rfl
  cases hok : Tide.settleOk s now have0 want
  · have HF := Lib.hid (settle_no h hok)
    unfold Tide.settleOk at hok
    clear h hs
    by_cases a1 : now < s.last
    · clear hok
      go_enter Try.func32, Try.ntmps32
      go_wp2_with fail
      go_ret2
      exact HF.out
    by_cases a2 : 1099511627776 < now
    · clear hok
      go_enter Try.func32, Try.ntmps32
      go_wp2_with fail
      go_ret2
      exact HF.out
    by_cases a3 : have0 < 0
    · clear hok
      go_enter Try.func32, Try.ntmps32
      go_wp2_with fail
      go_ret2
      exact HF.out
    by_cases a4 : 50 < have0
    · clear hok
      go_enter Try.func32, Try.ntmps32
      go_wp2_with fail
      go_ret2
      exact HF.out
    by_cases a5 : want < 0
    · clear hok
      go_enter Try.func32, Try.ntmps32
      go_wp2_with fail
      go_ret2
      exact HF.out
    have a6 : 50 < want := by
      simp at hok; omega
    clear hok
    go_enter Try.func32, Try.ntmps32
    go_wp2_with fail
    go_ret2
    exact HF.out
  · have HOK := Lib.hid hok
    have hb := hok
    unfold Tide.settleOk at hb
    simp only [Bool.and_eq_true, decide_eq_true_eq] at hb
    obtain ⟨⟨⟨a1, a2⟩, a3, a4⟩, a5, a6⟩ := hb
    have c9 : w.cell? ⟨g, 9, none⟩ = some vw := h.head.here rfl
    have f8 := h.head.soft 8
    have hgw : g < w.heap.size := h.head.inside
    have HH := Lib.hid h; have HS := Lib.hid hs
    have HT := Lib.hid (h.tick (by decide) now)
    obtain ⟨i0, hi, hz0, hz1, hz2⟩ := info_parts info_mark
    have hwl := hs.wlen
    have hm3 := Lib.hid (show s.wanted.length + 1 ≤ maxLen by simp only [maxLen]; omega)
    have hm4 := Lib.hid (show (s.wanted.length + 1) * 16 ≤ 140737488355328 by omega)
    clear h hs hok
    go_enter Try.func32, Try.ntmps32
    go_wp2_with (at_builtin; refine wpList_append_lies _ (by rfl) (.tmp 45) (.tmp 49) 92 (by rfl) 0 96 i0 (.agg #[.int .i64 0, .int .i64 0]) 2 16 Try.underlying92 hi hz0 hz1 hz2 rfl (by decide) vw _ _ rfl (HT.out.alloc _).wan.owns ⟨w.heap.size, 0, none⟩ 1 1 [.int .i64 now, .int .i64 want] rfl rfl (new_cells_in (Tide.size_put w _ _)) (by simp [Value.oneCell']) (by decide) hm3.out hm4.out (Nat.zero_le _) _ rfl ?_)
    intro b cap w1 hown hg ho hlt
    obtain ⟨⟨d9, f9⟩, hA, hC⟩ := seen_at HH.out (by decide) hown hg ho hlt
    have HA := Lib.hid hA; have HC := Lib.hid hC
    clear hown hg ho hlt hA hC c9 f8 c8
    have hokj := Lib.hid (Stb.ok_seen HS.out HOK.out)
    by_cases hup : have0 < want
    · go_wp2_with fail
      refine (stbMore _ g (s.seen now want) _ vm now have0 want _ (j + 1) HA.out hokj.out (by omega) (by have := HS.out.last0; omega) a2 a3 a4 a5 a6).mono ?_
      rintro e w3 ⟨rfl, hb3⟩
      obtain ⟨hA3, hC3⟩ := below_at HA.out HC.out hb3
      have HA3 := Lib.hid hA3; have HC3 := Lib.hid hC3
      have HUP := Lib.hid hup
      clear hA3 hC3 hb3 d9 f9
      have hnb := settleN0_bd (s.seen now want) now have0 want (fun m hm => ((Stb.ok_seen HS.out HOK.out).wan m hm).1) a3 a4 a5 a6
      have HN := Lib.hid (show Tide.moreN (s.seen now want) now have0 want = Tide.settleN0 (s.seen now want) now have0 want from by unfold Tide.settleN0; rw [if_pos HUP.out])
      rw [← HN.out] at hnb
      obtain ⟨b0, b1⟩ := hnb
      generalize Tide.moreN (s.seen now want) now have0 want = N at HN b0 b1 ⊢
      by_cases hne : N = have0
      · have HF := Lib.hid (settle_end (n := N) HOK.out HN.out HC3.out (by rw [if_pos hne]; exact HA3.out))
        subst hne
        go_wp2_with fail
        go_ret2
        exact HF.out
      · have hbq : (N == have0) = false := by simp [hne]
        have hbn : (N != have0) = true := by simp [hne]
        have e10 : w3.cell? ⟨g, 10, none⟩ = some vm := HA3.out.head.here rfl
        have hgw3 : g < w3.heap.size := HA3.out.head.inside
        have hml := (Stb.ok_seen HS.out HOK.out).mlen
        have hm5 := Lib.hid (show (s.seen now want).moved.length + 1 ≤ maxLen by simp only [maxLen]; omega)
        have hm6 := Lib.hid (show ((s.seen now want).moved.length + 1) * 16 ≤ 140737488355328 by omega)
        have HNE := Lib.hid hne
        clear hne hml
        go_wp2_with (at_builtin; refine wpList_append_lies _ (by rfl) (.tmp 79) (.tmp 85) 92 (by rfl) 0 96 i0 (.agg #[.int .i64 0, .int .i64 0]) 2 16 Try.underlying92 hi hz0 hz1 hz2 rfl (by decide) vm _ _ rfl (HA3.out.alloc _).mov.owns ⟨w3.heap.size, 0, none⟩ 1 1 [.int .i64 now, .int .i64 (N - have0)] rfl rfl (new_cells_in rfl) (by simp [Value.oneCell']) (by decide) hm5.out hm6.out (Nat.zero_le _) _ rfl ?_)
        intro b5 cap5 w5 hown5 hg5 ho5 hlt5
        obtain ⟨⟨d10, f10⟩, hA5, hC5⟩ := went_at (n := N - have0) HA3.out HC3.out (by decide) hown5 hg5 ho5 hlt5
        have HF := Lib.hid (settle_end (n := N) HOK.out HN.out hC5 (by rw [if_neg HNE.out]; exact hA5))
        clear hown5 hg5 ho5 hlt5 hA5 hC5 e10
        go_wp2_with fail
        go_ret2
        exact HF.out
    · by_cases hdn : want < have0
      · go_wp2_with fail
        refine (stbFewer _ g (s.seen now want) _ vm now have0 want _ (j + 1) HA.out hokj.out (by omega) (by have := HS.out.last0; omega) a2 a3 a4 a5 a6).mono ?_
        rintro e w3 ⟨rfl, hb3⟩
        obtain ⟨hA3, hC3⟩ := below_at HA.out HC.out hb3
        have HA3 := Lib.hid hA3; have HC3 := Lib.hid hC3
        have HUP := Lib.hid hup; have HDN := Lib.hid hdn
        clear hA3 hC3 hb3 d9 f9
        have hnb := settleN0_bd (s.seen now want) now have0 want (fun m hm => ((Stb.ok_seen HS.out HOK.out).wan m hm).1) a3 a4 a5 a6
        have HN := Lib.hid (show Tide.fewerN (s.seen now want) now have0 want = Tide.settleN0 (s.seen now want) now have0 want from by unfold Tide.settleN0; rw [if_neg (by have := HUP.out; omega), if_pos HDN.out])
        rw [← HN.out] at hnb
        obtain ⟨b0, b1⟩ := hnb
        generalize Tide.fewerN (s.seen now want) now have0 want = N at HN b0 b1 ⊢
        by_cases hne : N = have0
        · have HF := Lib.hid (settle_end (n := N) HOK.out HN.out HC3.out (by rw [if_pos hne]; exact HA3.out))
          subst hne
          go_wp2_with fail
          go_ret2
          exact HF.out
        · have hbq : (N == have0) = false := by simp [hne]
          have hbn : (N != have0) = true := by simp [hne]
          have e10 : w3.cell? ⟨g, 10, none⟩ = some vm := HA3.out.head.here rfl
          have hgw3 : g < w3.heap.size := HA3.out.head.inside
          have hml := (Stb.ok_seen HS.out HOK.out).mlen
          have hm5 := Lib.hid (show (s.seen now want).moved.length + 1 ≤ maxLen by simp only [maxLen]; omega)
          have hm6 := Lib.hid (show ((s.seen now want).moved.length + 1) * 16 ≤ 140737488355328 by omega)
          have HNE := Lib.hid hne
          clear hne hml
          go_wp2_with (at_builtin; refine wpList_append_lies _ (by rfl) (.tmp 79) (.tmp 85) 92 (by rfl) 0 96 i0 (.agg #[.int .i64 0, .int .i64 0]) 2 16 Try.underlying92 hi hz0 hz1 hz2 rfl (by decide) vm _ _ rfl (HA3.out.alloc _).mov.owns ⟨w3.heap.size, 0, none⟩ 1 1 [.int .i64 now, .int .i64 (N - have0)] rfl rfl (new_cells_in rfl) (by simp [Value.oneCell']) (by decide) hm5.out hm6.out (Nat.zero_le _) _ rfl ?_)
          intro b5 cap5 w5 hown5 hg5 ho5 hlt5
          obtain ⟨⟨d10, f10⟩, hA5, hC5⟩ := went_at (n := N - have0) HA3.out HC3.out (by decide) hown5 hg5 ho5 hlt5
          have HF := Lib.hid (settle_end (n := N) HOK.out HN.out hC5 (by rw [if_neg HNE.out]; exact hA5))
          clear hown5 hg5 ho5 hlt5 hA5 hC5 e10
          go_wp2_with fail
          go_ret2
          exact HF.out
      · have heq : want = have0 := by omega
        have HF := Lib.hid (settle_end (n := have0) HOK.out (by unfold Tide.settleN0; rw [if_neg hup, if_neg hdn]) HC.out (by rw [if_pos rfl]; exact HA.out))
        subst heq
        clear hup hdn
        go_wp2_with fail
        go_ret2
        exact HF.out
end Go.Proofs.Ytcnoapogeohmkaa


namespace Go.Proofs.Ytcnoapogeohmkaa
open Go.RowKit
set_option linter.unusedVariables false

theorem settle_ok {s : Tide.Stb} {j : Nat} {now have0 want : Int} (h : s.ok j) : (Tide.settleS s now have0 want).ok (j + 1) := by
  unfold Tide.settleS
  cases hk : Tide.settleOk s now have0 want
  · simp only [Bool.false_eq_true, if_false]
    exact ⟨h.up, h.down, h.last0, h.last1, h.wan, h.mov, h.wsort, h.msort, Nat.le_succ_of_le h.wlen, Nat.le_succ_of_le h.mlen⟩
  · simp only [if_true]
    have h1 := Stb.ok_seen h hk
    split
    · exact h1
    · have hb := hk
      unfold Tide.settleOk at hb
      simp only [Bool.and_eq_true, decide_eq_true_eq] at hb
      obtain ⟨⟨⟨a1, a2⟩, a3, a4⟩, a5, a6⟩ := hb
      have := settleN0_bd (s.seen now want) now have0 want (fun m hm => (h1.wan m hm).1) a3 a4 a5 a6
      exact Stb.ok_went (s := s.seen now want) h1 (by omega) (by omega) (by show s.moved.length + 1 ≤ _; have := h.mlen; omega)
def Tide.newStb (u d : Tide.Pace) : Tide.Stb := ⟨u.fix, d.fix, 0, [], []⟩
theorem newStb_ok (u d : Tide.Pace) : (Tide.newStb u d).ok 0 := ⟨u.fix_ok, d.fix_ok, by show (0 : Int) ≤ 0; omega, by show (0 : Int) ≤ _; omega, by simp [Tide.newStb], by simp [Tide.newStb], List.Pairwise.nil, List.Pairwise.nil, Nat.le_refl _, Nat.le_refl _⟩
/-- one thing in memory of the call's own -/
structure Solo (w0 w : World) (S : Nat → Prop) : Prop where
  own : ∀ b, S b → w0.heap.size ≤ b
  below : Below w0.heap.size w0 w
theorem Solo.next {w0 w w1 : World} {S : Nat → Prop} (h : Solo w0 w S) (hc : Tide.Chg S w w1) : Solo w0 w1 (Tide.Plus S w w1) :=
  ⟨fun b hb => by
      have := h.below.size
      rcases hb with hb | hb
      · exact h.own b hb
      · omega, h.below.trans (hc.below h.below.size (fun k hk hS => by have := h.own k hS; omega))⟩
theorem Solo.alloc {w0 w : World} {S : Nat → Prop} (h : Solo w0 w S) (o : Obj) : Solo w0 (w.alloc o) S := ⟨h.own, h.below.alloc h.below.size o⟩
theorem Solo.below_ {w0 w w1 : World} {S : Nat → Prop} (h : Solo w0 w S) (hb : Below w.heap.size w w1) : Solo w0 w1 S := ⟨h.own, h.below.trans (hb.mono h.below.size)⟩
def NewStbPost (T TM : TypeId) (w : World) (s : Tide.Stb) (e : Ending) (w' : World) : Prop := ∃ g, e = .returned (.pointer (some ⟨g, 0, none⟩)) ∧ StbAt T TM (Tide.Plus (fun _ => False) w w') w' g s (.slice none 0 0) (.slice none 0 0) ∧ Below w.heap.size w w'
theorem stb_made {T TM : TypeId} {w w1 : World} {s : Tide.Stb} (hb : Below w.heap.size w w1) (h1 : s.wanted = []) (h2 : s.moved = []) :
    NewStbPost T TM w s (.returned (.pointer (some ⟨w1.heap.size, 0, none⟩))) (w1.alloc (.cells #[.int .i64 s.up.win, .int .i64 s.up.pods, .int .i64 s.up.pct, .int .i64 s.up.per, .int .i64 s.down.win, .int .i64 s.down.pods, .int .i64 s.down.pct, .int .i64 s.down.per, .int .i64 s.last, .slice none 0 0, .slice none 0 0] T)) :=
  ⟨_, rfl, ⟨Tide.At.made _ _ _, by rw [h1]; exact Tide.OwnRow.nil _ _ _ _, by rw [h2]; exact Tide.OwnRow.nil _ _ _ _, fun b hb => by simp [Value.ownBlock] at hb, .inr ⟨hb.size, by simp⟩, fun b hb => by rcases hb with hb | hb; exact hb.elim; exact hb.2⟩, hb.alloc hb.size _⟩
theorem _root_.Go.RowKit.Below.cell_frozen {W w1 : World} (hb : Below W.heap.size W w1) : (∀ b o, b < W.heap.size → w1.cell? ⟨b, o, none⟩ = W.cell? ⟨b, o, none⟩) ∧ (∀ b o, b < W.heap.size → w1.frozen? ⟨b, o, none⟩ = W.frozen? ⟨b, o, none⟩) :=
  ⟨fun b o h => hb.cell (p := ⟨b, o, none⟩) h, fun b o h => hb.frozen (p := ⟨b, o, none⟩) h⟩
theorem right4 (a b c d : Int) (w0 W : World) (h : Below w0.heap.size w0 W) : Calls Try.prog 44 #[.agg #[.int .i64 a, .int .i64 b, .int .i64 c, .int .i64 d]] W fun e w' => e = .returned (.agg #[.int .i64 (Tide.clipT a), .int .i64 (Tide.clipT b), .int .i64 (Tide.clipT c), .int .i64 (Tide.clipT d)]) ∧ Below w0.heap.size w0 w' ∧ (∀ b o, b < W.heap.size → w'.cell? ⟨b, o, none⟩ = W.cell? ⟨b, o, none⟩) :=
  (stbRight ⟨a, b, c, d⟩ W).mono fun _ _ ⟨he, hb⟩ => ⟨he, h.trans (hb.mono h.size), hb.cell_frozen.1⟩
set_option maxRecDepth 100000 in
set_option maxHeartbeats 1600000 in
theorem stbNew (u d : Tide.Pace) (w : World) : Calls Try.prog 28 #[.agg #[.int .i64 u.win, .int .i64 u.pods, .int .i64 u.pct, .int .i64 u.per], .agg #[.int .i64 d.win, .int .i64 d.pods, .int .i64 d.pct, .int .i64 d.per]] w (NewStbPost 94 96 w (Tide.newStb u d)) := by
  have hA := (Tide.At.made w 23 #[.int .i64 u.win, .int .i64 u.pods, .int .i64 u.pct, .int .i64 u.per]).alloc (.cells #[.int .i64 d.win, .int .i64 d.pods, .int .i64 d.pct, .int .i64 d.per] 23)
  have hB := Tide.At.made (w.alloc (.cells #[.int .i64 u.win, .int .i64 u.pods, .int .i64 u.pct, .int .i64 u.per] 23)) 23 #[.int .i64 d.win, .int .i64 d.pods, .int .i64 d.pct, .int .i64 d.per]
  simp only [World.size_alloc] at hB
  have hb0 : Below w.heap.size w ((w.alloc (.cells #[.int .i64 u.win, .int .i64 u.pods, .int .i64 u.pct, .int .i64 u.per] 23)).alloc (.cells #[.int .i64 d.win, .int .i64 d.pods, .int .i64 d.pct, .int .i64 d.per] 23)) := ((Below.refl _ _).alloc (Nat.le_refl _) _).alloc (by simp) _
  have HA := Lib.hid hA.drew; have HB := Lib.hid hB.drew; have H0 := Lib.hid hb0.drew
  clear hA hB hb0
  go_enter Try.func28, Try.ntmps28
  go_wp2_with fail
  have hb1 := H0.out
  go_region_with (go_at_call 44; refine (right4 _ _ _ _ w _ (by assumption)).mono ?_; rintro e w1 ⟨rfl, hb1, hc1⟩)
  all_goals
    have HF := Lib.hid (stb_made (T := 94) (TM := 96) (s := Tide.newStb u d) hb1 rfl rfl)
    clear hb1
    go_wp2_with fail
    go_ret
    exact HF.out

end Go.Proofs.Ytcnoapogeohmkaa


namespace Go.Proofs.Ytcnoapogeohmkaa
open Go.RowKit
set_option linter.unusedVariables false
theorem behind_none {l : List Tide.Mark} {t : Int} (h : ∀ m ∈ l, m.1 ≤ t) : Tide.behindL l t = [] := by
  rw [Tide.behind_eq (i := l.length) (Nat.le_refl _) (by simp) ?_]
  · simp
  · rcases Nat.eq_zero_or_pos l.length with h0 | h0
    · exact .inl h0
    · obtain ⟨m, hm⟩ := Tide.get_some l (show l.length - 1 < l.length by omega)
      exact .inr ⟨m, hm, h m (List.mem_of_getElem? hm)⟩
/-- neither windows nor paces -/
def Free (s : Tide.Stb) : Prop := s.up.win = 0 ∧ s.down.win = 0 ∧ s.up.limited = false ∧ s.down.limited = false
theorem free_next {s : Tide.Stb} {now have0 want : Int} (h : Free s) : Free (Tide.settleS s now have0 want) := by
  unfold Tide.settleS
  split
  · split <;> exact h
  · exact h
theorem free_says {s : Tide.Stb} {j : Nat} {now have0 want : Int} (h : s.ok j) (hf : Free s) (hk : Tide.settleOk s now have0 want = true) : Tide.settleN s now have0 want = want := by
  obtain ⟨f1, f2, f3, f4⟩ := hf
  have e : Tide.settleN s now have0 want = Tide.settleN0 (s.seen now want) now have0 want := by unfold Tide.settleN; rw [hk]; rfl
  have h1 := Stb.ok_seen h hk
  have g1 : Tide.behindL (s.seen now want).wanted (now - (s.seen now want).up.win) = [] := behind_none fun m hm => by
    have := (h1.wan m hm).2.2
    show m.1 ≤ now - s.up.win
    rw [f1]; have : m.1 ≤ now := this; omega
  have g2 : Tide.behindL (s.seen now want).wanted (now - (s.seen now want).down.win) = [] := behind_none fun m hm => by
    have := (h1.wan m hm).2.2
    show m.1 ≤ now - s.down.win
    rw [f2]; have : m.1 ≤ now := this; omega
  rw [e]
  unfold Tide.settleN0
  split
  · unfold Tide.moreN
    rw [g1, show (s.seen now want).up.limited = false from f3]
    show max want have0 = want
    omega
  · split
    · unfold Tide.fewerN
      rw [g2, show (s.seen now want).down.limited = false from f4]
      show min want have0 = want
      omega
    · omega
end Go.Proofs.Ytcnoapogeohmkaa
