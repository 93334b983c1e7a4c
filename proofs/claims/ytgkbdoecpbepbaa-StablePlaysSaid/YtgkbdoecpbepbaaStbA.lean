/- The walk of StableFree. -/
import Derived.Test.YtgkbdoecpbepbaaStbB
namespace Go.Proofs.Ytgkbdoecpbepbaa
open Go.RowKit
set_option linter.unusedVariables false
theorem behind_none {l : List Tide.Mark} {t : Int} (h : ∀ m ∈ l, m.1 ≤ t) : Tide.behindL l t = [] := by
  rw [Tide.behind_eq (i := l.length) (Nat.le_refl _) (by simp) ?_]
  · simp
  · rcases Nat.eq_zero_or_pos l.length with h0 | h0
    · exact .inl h0
    · obtain ⟨m, hm⟩ := Tide.get_some l (show l.length - 1 < l.length by omega)
      exact .inr ⟨m, hm, h m (List.mem_of_getElem? hm)⟩
/-- neither windows nor paces -/
def Free (s : Tide.Stb) : Prop := s.up.win = 0 ∧ s.down.win = 0 ∧ s.up.limited = false ∧ s.down.limited = false
theorem free_next {s : Tide.Stb} {now have0 want : Int} (h : Free s) : Free (Tide.settleS s now have0 want) := by
  unfold Tide.settleS
  split
  · split <;> exact h
  · exact h
theorem free_says {s : Tide.Stb} {j : Nat} {now have0 want : Int} (h : s.ok j) (hf : Free s) (hk : Tide.settleOk s now have0 want = true) : Tide.settleN s now have0 want = want := by
  obtain ⟨f1, f2, f3, f4⟩ := hf
  have e : Tide.settleN s now have0 want = Tide.settleN0 (s.seen now want) now have0 want := by unfold Tide.settleN; rw [hk]; rfl
  have h1 := Stb.ok_seen h hk
  have g1 : Tide.behindL (s.seen now want).wanted (now - (s.seen now want).up.win) = [] := behind_none fun m hm => by
    have := (h1.wan m hm).2.2
    show m.1 ≤ now - s.up.win
    rw [f1]; have : m.1 ≤ now := this; omega
  have g2 : Tide.behindL (s.seen now want).wanted (now - (s.seen now want).down.win) = [] := behind_none fun m hm => by
    have := (h1.wan m hm).2.2
    show m.1 ≤ now - s.down.win
    rw [f2]; have : m.1 ≤ now := this; omega
  rw [e]
  unfold Tide.settleN0
  split
  · unfold Tide.moreN
    rw [g1, show (s.seen now want).up.limited = false from f3]
    show max want have0 = want
    omega
  · split
    · unfold Tide.fewerN
      rw [g2, show (s.seen now want).down.limited = false from f4]
      show min want have0 = want
      omega
    · omega
def FreeRun (T TM : TypeId) (w0 w : World) (g : Nat) (j : Nat) : Prop := ∃ S s vw vm, StbAt T TM S w g s vw vm ∧ Solo w0 w S ∧ s.ok j ∧ Free s
set_option maxRecDepth 100000 in
set_option maxHeartbeats 6400000 in
theorem stableFree_walk (v : Value) (l : List (List Int)) (w : World) (hl : ArgRows w 3 v l) :
    Calls Try.prog 8 #[v] w fun e w' => e = .returned (.bool true) ∧ Below w.heap.size w w' := by
  obtain ⟨A, cap, rfl, hcap, hmax, hrows, hA⟩ := hl
  have HA := Lib.hid hA; have HR := Lib.hid hrows
  have hmx : cap ≤ 9223372036854775807 := hmax
  have hcases : (100 : Int) < l.length ∨ (l.length : Int) = 100 ∨ (l.length : Int) < 100 := by omega
  clear hA hrows hmax
  go_enter Try.func8, Try.ntmps8
  go_wp2_with fail
  refine (stbSlow _).mono ?_
  rintro e w1 ⟨rfl, hb1⟩
  go_wp2_with fail
  refine (stbNew ⟨0, 0, 0, 0⟩ ⟨0, 0, 5, 0⟩ _).mono ?_
  rintro e w2 ⟨g, rfl, h2, hb2⟩
  have hS : FreeRun 94 101 w w2 g 0 := ⟨_, _, _, _, h2, ⟨fun b hb => by rcases hb with hb | hb; exact hb.elim; exact Nat.le_trans hb1.size hb.1, hb1.trans (hb2.mono hb1.size)⟩, newStb_ok _ _, ⟨by decide, by decide, by decide, by decide⟩⟩
  clear h2 hb2 hb1
  rcases hcases with hlen | hlen | hlen
  · skip
    go_wp2_with fail
    go_loopg [19] 100 (fun k i wr => ∃ j : Nat, i = .int .i64 j ∧ j ≤ 100 ∧ k = 100 - j ∧ FreeRun 94 101 w wr g j)
    case atStart => exact ⟨0, rfl, by omega, by omega, hS⟩
    case round =>
      clear hS
      obtain ⟨j, rfl, hj, hk, S, s, vw, vm, hA, hO, hok, hfr⟩ := hrel
      have HK := Lib.hid hk
      by_cases hlt : j < 100
      · obtain ⟨b, off, x, y, z, rfl, hx, hy, hz⟩ := wish_row HA.out HR.out hO.below (show j < l.length by omega)
        have hj0 : (0 : Int) ≤ (j : Int) := by omega
        have hj1 : (j : Int) < 100 := by omega
        have hj2 : (j : Int) < (l.length : Int) := by omega
        have HAA := Lib.hid (hA.alloc (.cells #[.int .i64 x, .int .i64 y, .int .i64 z] 59))
        have HO := Lib.hid (hO.alloc (.cells #[.int .i64 x, .int .i64 y, .int .i64 z] 59))
        have HX := Lib.hid (Tide.At.made wr 59 #[.int .i64 x, .int .i64 y, .int .i64 z])
        have HL := Lib.hid hA.lim
        have HOK := Lib.hid hok; have HFR := Lib.hid hfr
        clear hA hO hok hk hfr
        go_wp2_with fail
        refine (stbSettle S g s vw vm x y z _ j HAA.out HOK.out (by omega)).mono ?_
        rintro e w3 ⟨rfl, ⟨vw3, vm3, h3⟩, c3⟩
        have hX3 := HX.out.chg c3 (fun hS => Nat.lt_irrefl _ (HL.out _ hS))
        have x2 := hX3.here (i := 2) rfl
        have HN := Lib.hid (show FreeRun 94 101 w w3 g (j + 1) from ⟨_, _, _, _, h3, HO.out.next c3, settle_ok HOK.out, free_next HFR.out⟩)
        clear hx hy hz h3 c3 hX3
        cases hk : Tide.settleOk s x y z
        · have e1 : Tide.settleN s x y z = 0 := by unfold Tide.settleN; rw [hk]; rfl
          have e2 : Tide.settleE s x y z = 1 := by unfold Tide.settleE; rw [hk]; rfl
          rw [e1, e2]
          clear hk e1 e2
          go_wp2_with fail
          go_roundg (100 - (j + 1))
          case measure => have := HK.out; omega
          case rel => exact ⟨j + 1, by go_num, by omega, rfl, HN.out⟩
        · have e2 : Tide.settleE s x y z = 0 := by unfold Tide.settleE; rw [hk]; rfl
          rw [e2, free_says HOK.out HFR.out hk]
          clear hk e2
          go_wp2_with fail
          go_roundg (100 - (j + 1))
          case measure => have := HK.out; omega
          case rel => exact ⟨j + 1, by go_num, by omega, rfl, HN.out⟩
      · have HBl := Lib.hid hO.below
        clear hA hO hok hk hfr
        go_wp2_with fail
        go_ret
        exact ⟨rfl, HBl.out⟩
  · have hq : (100 : Int) ≤ (l.length : Int) := by omega
    have hq2 : (l.length : Int) ≤ 100 := by omega
    have hlen' : l.length = 100 := by omega
    rw [hlen']
    clear hlen
    go_wp2_with fail
    go_loopg [19] 100 (fun k i wr => ∃ j : Nat, i = .int .i64 j ∧ j ≤ 100 ∧ k = 100 - j ∧ FreeRun 94 101 w wr g j)
    case atStart => exact ⟨0, rfl, by omega, by omega, hS⟩
    case round =>
      clear hS
      obtain ⟨j, rfl, hj, hk, S, s, vw, vm, hA, hO, hok, hfr⟩ := hrel
      have HK := Lib.hid hk
      by_cases hlt : j < 100
      · obtain ⟨b, off, x, y, z, rfl, hx, hy, hz⟩ := wish_row HA.out HR.out hO.below (show j < l.length by omega)
        have hj0 : (0 : Int) ≤ (j : Int) := by omega
        have hj1 : (j : Int) < 100 := by omega
        have hj2 : (j : Int) < (l.length : Int) := by omega
        have HAA := Lib.hid (hA.alloc (.cells #[.int .i64 x, .int .i64 y, .int .i64 z] 59))
        have HO := Lib.hid (hO.alloc (.cells #[.int .i64 x, .int .i64 y, .int .i64 z] 59))
        have HX := Lib.hid (Tide.At.made wr 59 #[.int .i64 x, .int .i64 y, .int .i64 z])
        have HL := Lib.hid hA.lim
        have HOK := Lib.hid hok; have HFR := Lib.hid hfr
        clear hA hO hok hk hfr
        go_wp2_with fail
        refine (stbSettle S g s vw vm x y z _ j HAA.out HOK.out (by omega)).mono ?_
        rintro e w3 ⟨rfl, ⟨vw3, vm3, h3⟩, c3⟩
        have hX3 := HX.out.chg c3 (fun hS => Nat.lt_irrefl _ (HL.out _ hS))
        have x2 := hX3.here (i := 2) rfl
        have HN := Lib.hid (show FreeRun 94 101 w w3 g (j + 1) from ⟨_, _, _, _, h3, HO.out.next c3, settle_ok HOK.out, free_next HFR.out⟩)
        clear hx hy hz h3 c3 hX3
        cases hk : Tide.settleOk s x y z
        · have e1 : Tide.settleN s x y z = 0 := by unfold Tide.settleN; rw [hk]; rfl
          have e2 : Tide.settleE s x y z = 1 := by unfold Tide.settleE; rw [hk]; rfl
          rw [e1, e2]
          clear hk e1 e2
          go_wp2_with fail
          go_roundg (100 - (j + 1))
          case measure => have := HK.out; omega
          case rel => exact ⟨j + 1, by go_num, by omega, rfl, HN.out⟩
        · have e2 : Tide.settleE s x y z = 0 := by unfold Tide.settleE; rw [hk]; rfl
          rw [e2, free_says HOK.out HFR.out hk]
          clear hk e2
          go_wp2_with fail
          go_roundg (100 - (j + 1))
          case measure => have := HK.out; omega
          case rel => exact ⟨j + 1, by go_num, by omega, rfl, HN.out⟩
      · have HBl := Lib.hid hO.below
        clear hA hO hok hk hfr
        go_wp2_with fail
        go_ret
        exact ⟨rfl, HBl.out⟩
  · skip
    go_wp2_with fail
    go_loopg [19] l.length (fun k i wr => ∃ j : Nat, i = .int .i64 j ∧ j ≤ l.length ∧ k = l.length - j ∧ FreeRun 94 101 w wr g j)
    case atStart => exact ⟨0, rfl, by omega, by omega, hS⟩
    case round =>
      clear hS
      obtain ⟨j, rfl, hj, hk, S, s, vw, vm, hA, hO, hok, hfr⟩ := hrel
      have HK := Lib.hid hk
      by_cases hlt : j < l.length
      · obtain ⟨b, off, x, y, z, rfl, hx, hy, hz⟩ := wish_row HA.out HR.out hO.below (show j < l.length by omega)
        have hj0 : (0 : Int) ≤ (j : Int) := by omega
        have hj1 : (j : Int) < (l.length : Int) := by omega
        have hj2 : (j : Int) < (l.length : Int) := by omega
        have HAA := Lib.hid (hA.alloc (.cells #[.int .i64 x, .int .i64 y, .int .i64 z] 59))
        have HO := Lib.hid (hO.alloc (.cells #[.int .i64 x, .int .i64 y, .int .i64 z] 59))
        have HX := Lib.hid (Tide.At.made wr 59 #[.int .i64 x, .int .i64 y, .int .i64 z])
        have HL := Lib.hid hA.lim
        have HOK := Lib.hid hok; have HFR := Lib.hid hfr
        clear hA hO hok hk hfr
        go_wp2_with fail
        refine (stbSettle S g s vw vm x y z _ j HAA.out HOK.out (by omega)).mono ?_
        rintro e w3 ⟨rfl, ⟨vw3, vm3, h3⟩, c3⟩
        have hX3 := HX.out.chg c3 (fun hS => Nat.lt_irrefl _ (HL.out _ hS))
        have x2 := hX3.here (i := 2) rfl
        have HN := Lib.hid (show FreeRun 94 101 w w3 g (j + 1) from ⟨_, _, _, _, h3, HO.out.next c3, settle_ok HOK.out, free_next HFR.out⟩)
        clear hx hy hz h3 c3 hX3
        cases hk : Tide.settleOk s x y z
        · have e1 : Tide.settleN s x y z = 0 := by unfold Tide.settleN; rw [hk]; rfl
          have e2 : Tide.settleE s x y z = 1 := by unfold Tide.settleE; rw [hk]; rfl
          rw [e1, e2]
          clear hk e1 e2
          go_wp2_with fail
          go_roundg (l.length - (j + 1))
          case measure => have := HK.out; omega
          case rel => exact ⟨j + 1, by go_num, by omega, rfl, HN.out⟩
        · have e2 : Tide.settleE s x y z = 0 := by unfold Tide.settleE; rw [hk]; rfl
          rw [e2, free_says HOK.out HFR.out hk]
          clear hk e2
          go_wp2_with fail
          go_roundg (l.length - (j + 1))
          case measure => have := HK.out; omega
          case rel => exact ⟨j + 1, by go_num, by omega, rfl, HN.out⟩
      · have HBl := Lib.hid hO.below
        clear hA hO hok hk hfr
        go_wp2_with fail
        go_ret
        exact ⟨rfl, HBl.out⟩
end Go.Proofs.Ytgkbdoecpbepbaa
