/- The walks of StableBetween and StableFree. -/
import Derived.Test.YtgkbdoecpbepbaaStbG
import Derived.Deep.LoopGhost
namespace Go.Proofs.Ytgkbdoecpbepbaa
open Go.RowKit
set_option linter.unusedVariables false
theorem wish_row {w wr : World} {A : Option Addr} {l : List (List Int)} {k : Nat} (hA : RowsAt w 3 A l) (hr : ∀ row ∈ l, row.length = 3 ∧ ∀ x ∈ row, -9223372036854775808 ≤ x ∧ x ≤ 9223372036854775807) (hb : Below w.heap.size w wr) (hk : k < l.length) :
    ∃ b off x y z, A = some ⟨b, off, none⟩ ∧ wr.cell? ⟨b, off + k * 3, none⟩ = some (.int .i64 x) ∧ wr.cell? ⟨b, off + k * 3 + 1, none⟩ = some (.int .i64 y) ∧ wr.cell? ⟨b, off + k * 3 + 2, none⟩ = some (.int .i64 z) := by
  obtain ⟨b, off, e, hlt, hc⟩ := hA (by omega)
  have hrow : l[k]? = some l[k] := List.getElem?_eq_getElem hk
  have hlen := (hr _ (List.getElem_mem hk)).1
  obtain ⟨x, y, z, hxyz⟩ : ∃ x y z, l[k] = [x, y, z] := by
    match l[k], hlen with
    | [x, y, z], _ => exact ⟨x, y, z, rfl⟩
  rw [hxyz] at hrow
  exact ⟨b, off, x, y, z, e, (hb.cell (p := ⟨b, off + k * 3, none⟩) hlt).trans (hc k _ 0 x hrow rfl), (hb.cell (p := ⟨b, off + k * 3 + 1, none⟩) hlt).trans (hc k _ 1 y hrow rfl), (hb.cell (p := ⟨b, off + k * 3 + 2, none⟩) hlt).trans (hc k _ 2 z hrow rfl)⟩
/-- a Stable at a loop's head, behind j wishes -/
def StbRun (T TM : TypeId) (w0 w : World) (g : Nat) (j : Nat) : Prop := ∃ S s vw vm, StbAt T TM S w g s vw vm ∧ Solo w0 w S ∧ s.ok j
theorem between {s : Tide.Stb} {j : Nat} {now have0 want : Int} (h : s.ok j) (hk : Tide.settleOk s now have0 want = true) : min have0 want ≤ Tide.settleN s now have0 want ∧ Tide.settleN s now have0 want ≤ max have0 want := by
  have e : Tide.settleN s now have0 want = Tide.settleN0 (s.seen now want) now have0 want := by unfold Tide.settleN; rw [hk]; rfl
  rw [e]
  have h1 : ∀ (l : List Tide.Mark) (x : Int), Tide.minAll l x ≤ x := fun l => by
    induction l with
    | nil => intro x; exact Int.le_refl _
    | cons a l ih => intro x; exact Int.le_trans (ih (min x a.2)) (by omega)
  have h2 : ∀ (l : List Tide.Mark) (x : Int), x ≤ Tide.maxAll l x := fun l => by
    induction l with
    | nil => intro x; exact Int.le_refl _
    | cons a l ih => intro x; exact Int.le_trans (show x ≤ max x a.2 by omega) (ih (max x a.2))
  unfold Tide.settleN0
  split
  · have := h1 (Tide.behindL (s.seen now want).wanted (now - (s.seen now want).up.win)) want
    unfold Tide.moreN
    simp only
    split <;> omega
  · split
    · have := h2 (Tide.behindL (s.seen now want).wanted (now - (s.seen now want).down.win)) want
      unfold Tide.fewerN
      simp only
      split <;> omega
    · omega

set_option maxRecDepth 100000 in
set_option maxHeartbeats 6400000 in
theorem stableBetween_walk (u0 u1 u2 u3 d0 d1 d2 d3 : Int) (v : Value) (l : List (List Int)) (w : World) (hl : ArgRows w 3 v l) :
    Calls Try.prog 7 #[.agg #[.int .i64 u0, .int .i64 u1, .int .i64 u2, .int .i64 u3], .agg #[.int .i64 d0, .int .i64 d1, .int .i64 d2, .int .i64 d3], v] w fun e w' => e = .returned (.bool true) ∧ Below w.heap.size w w' := by
  obtain ⟨A, cap, rfl, hcap, hmax, hrows, hA⟩ := hl
  have HA := Lib.hid hA; have HR := Lib.hid hrows
  clear hA hrows hcap hmax
  have hb0 : Below w.heap.size w ((w.alloc (.cells #[.int .i64 u0, .int .i64 u1, .int .i64 u2, .int .i64 u3] 52)).alloc (.cells #[.int .i64 d0, .int .i64 d1, .int .i64 d2, .int .i64 d3] 52)) := ((Below.refl _ _).alloc (Nat.le_refl _) _).alloc (by simp) _
  have H0 := Lib.hid hb0
  clear hb0
  go_enter Try.func7, Try.ntmps7
  go_wp2_with fail
  refine (stbSlow _).mono ?_
  rintro e w1 ⟨rfl, hb1⟩
  obtain ⟨hc1, _⟩ := hb1.cell_frozen
  have HB1 := Lib.hid (H0.out.trans (hb1.mono H0.out.size))
  by_cases hlen : 100 < l.length
  · have hbig : (100 : Int) < (l.length : Int) := by omega
    clear hb1
    go_wp2_with fail
    go_ret
    exact ⟨rfl, HB1.out⟩
  · have hsm : (l.length : Int) ≤ 100 := by omega
    clear hlen hb1
    go_wp2_with fail
    refine (stbNew ⟨u0, u1, u2, u3⟩ ⟨d0, d1, d2, d3⟩ _).mono ?_
    rintro e w2 ⟨g, rfl, h2, hb2⟩
    have hS : StbRun 94 101 w w2 g 0 := ⟨_, _, _, _, h2, ⟨fun b hb => by rcases hb with hb | hb; exact hb.elim; exact Nat.le_trans HB1.out.size hb.1, HB1.out.trans (hb2.mono HB1.out.size)⟩, newStb_ok _ _⟩
    clear hc1 h2 hb2
    go_wp2_with fail
    go_loopg [22] l.length (fun k i wr => ∃ j : Nat, i = .int .i64 j ∧ j ≤ l.length ∧ k = l.length - j ∧ StbRun 94 101 w wr g j)
    case atStart => exact ⟨0, rfl, by omega, by omega, hS⟩
    case round =>
      clear hS
      obtain ⟨j, rfl, hj, hk, S, s, vw, vm, hA, hO, hok⟩ := hrel
      have HK := Lib.hid hk
      by_cases hlt : j < l.length
      · obtain ⟨b, off, x, y, z, rfl, hx, hy, hz⟩ := wish_row HA.out HR.out hO.below hlt
        have hj0 : (0 : Int) ≤ (j : Int) := by omega
        have hj1 : (j : Int) < (l.length : Int) := by omega
        have HAA := Lib.hid (hA.alloc (.cells #[.int .i64 x, .int .i64 y, .int .i64 z] 59))
        have HO := Lib.hid (hO.alloc (.cells #[.int .i64 x, .int .i64 y, .int .i64 z] 59))
        have HX := Lib.hid (Tide.At.made wr 59 #[.int .i64 x, .int .i64 y, .int .i64 z])
        have HL := Lib.hid hA.lim
        have HOK := Lib.hid hok
        clear hA hO hok hk
        go_wp2_with fail
        refine (stbSettle S g s vw vm x y z _ j HAA.out HOK.out (by omega)).mono ?_
        rintro e w3 ⟨rfl, ⟨vw3, vm3, h3⟩, c3⟩
        have hX3 := HX.out.chg c3 (fun hS => Nat.lt_irrefl _ (HL.out _ hS))
        have x1 := hX3.here (i := 1) rfl; have x2 := hX3.here (i := 2) rfl
        have HN := Lib.hid (show StbRun 94 101 w w3 g (j + 1) from ⟨_, _, _, _, h3, HO.out.next c3, settle_ok HOK.out⟩)
        clear hx hy hz h3 c3 hX3
        cases hk : Tide.settleOk s x y z
        · have e1 : Tide.settleN s x y z = 0 := by unfold Tide.settleN; rw [hk]; rfl
          have e2 : Tide.settleE s x y z = 1 := by unfold Tide.settleE; rw [hk]; rfl
          rw [e1, e2]
          clear hk e1 e2
          go_wp2_with fail
          go_roundg (l.length - (j + 1))
          case measure => have := HK.out; omega
          case rel => exact ⟨j + 1, by go_num, by omega, rfl, HN.out⟩
        · have e2 : Tide.settleE s x y z = 0 := by unfold Tide.settleE; rw [hk]; rfl
          obtain ⟨q1, q2⟩ := between HOK.out hk
          rw [e2]
          generalize Tide.settleN s x y z = n at q1 q2 ⊢
          clear hk e2
          by_cases hyz : y ≤ z
          · have p1 : y ≤ n := by omega
            have p2 : n ≤ z := by omega
            clear q1 q2
            by_cases hzy : z < y + 1
            · have hez : z = y := by omega
              subst hez
              go_wp2_with fail
              go_roundg (l.length - (j + 1))
              case measure => have := HK.out; omega
              case rel => exact ⟨j + 1, by go_num, by omega, rfl, HN.out⟩
            · have hzy' : y < z := by omega
              clear hzy
              go_wp2_with fail
              go_roundg (l.length - (j + 1))
              case measure => have := HK.out; omega
              case rel => exact ⟨j + 1, by go_num, by omega, rfl, HN.out⟩
          · have hzy : z < y := by omega
            have p1 : z ≤ n := by omega
            have p2 : n ≤ y := by omega
            clear q1 q2 hyz
            go_wp2_with fail
            go_roundg (l.length - (j + 1))
            case measure => have := HK.out; omega
            case rel => exact ⟨j + 1, by go_num, by omega, rfl, HN.out⟩
      · have HBl := Lib.hid hO.below
        clear hA hO hok hk
        go_wp2_with fail
        go_ret
        exact ⟨rfl, HBl.out⟩
end Go.Proofs.Ytgkbdoecpbepbaa
