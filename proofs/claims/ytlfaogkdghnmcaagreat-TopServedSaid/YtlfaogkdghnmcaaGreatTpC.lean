/- Is a pause among happenings? -/
import Derived.Test.YtlfaogkdghnmcaaGreatTpP
set_option linter.unusedVariables false
set_option linter.unusedSimpArgs false
namespace Go.Proofs.YtlfaogkdghnmcaaGreat
open Go.RowKit
structure Hap where
  k : Int
  a : Int
  n : Int
def Hap.enc (h : Hap) : List Value := [.int .i64 h.k, .int .i64 h.a, .int .i64 h.n]
def hapOf (r : List Int) : Hap := ⟨r.getD 0 0, r.getD 1 0, r.getD 2 0⟩
theorem hap_list {w : World} {A : Option Addr} {cap : Nat} {l : List (List Int)} (hr : ∀ row ∈ l, row.length = 3 ∧ ∀ x ∈ row, -9223372036854775808 ≤ x ∧ x ≤ 9223372036854775807) (hA : RowsAt w 3 A l) : Tide.ListIn w 3 Hap.enc (.slice A l.length cap) (l.map hapOf) := by
  refine ⟨A, cap, by rw [List.length_map], fun h0 => ?_⟩
  rw [List.length_map] at h0
  obtain ⟨b, off, e, hlt, hc⟩ := hA h0
  refine ⟨b, off, e, hlt, fun i a j u hi hj => ?_⟩
  rw [List.getElem?_map] at hi
  obtain ⟨r, h1, rfl⟩ := Option.map_eq_some_iff.1 hi
  have hm := (hr r (List.mem_of_getElem? h1)).1
  match r, hm with
  | [x, y, z], _ =>
    rcases j with _ | _ | _ | j
    · simp [Hap.enc, hapOf] at hj; subst hj; exact hc i _ 0 x h1 rfl
    · simp [Hap.enc, hapOf] at hj; subst hj; exact hc i _ 1 y h1 rfl
    · simp [Hap.enc, hapOf] at hj; subst hj; exact hc i _ 2 z h1 rfl
    · simp [Hap.enc] at hj
def isPause (h : Hap) : Bool := h.k == 13
set_option maxRecDepth 100000 in
set_option maxHeartbeats 800000 in
theorem hapPause (m : Hap) (W : World) : Calls Tryz.prog 89 #[.agg #[.int .i64 m.k, .int .i64 m.a, .int .i64 m.n]] W fun e W' => e = .returned (.bool (isPause m)) ∧ Below W.heap.size W W' := by
  have HF := Lib.hid (show isPause m = (m.k == 13) from rfl)
  have HB := Lib.hid ((Below.refl W.heap.size W).alloc (Nat.le_refl _) (.cells #[.int .i64 m.k, .int .i64 m.a, .int .i64 m.n] 44))
  go_enter Tryz.func89, Tryz.ntmps89
  go_wp2_with fail
  go_ret
  exact ⟨by rw [HF.out] <;> rfl, HB.out⟩
/- slices.IndexFunc at []api.Happens, the function tidetop.paused$1 -/
set_option maxRecDepth 100000 in
set_option maxHeartbeats 4000000 in
theorem hapP_index  (p : Hap → Bool) (l : List Hap) (v : Value) (w : World) (hv : Tide.ListIn w 3 Hap.enc v l) (hlen : l.length ≤ 100000000)
    (hp : ∀ (m : Hap) (W : World), Below w.heap.size w W → Calls Tryz.prog 89 #[.agg #[.int .i64 m.k, .int .i64 m.a, .int .i64 m.n]] W fun e W' => e = .returned (.bool (p m)) ∧ Below W.heap.size W W') :
    Calls Tryz.prog 130 #[v, .func (.func 89) #[] #[]] w fun e w' => e = .returned (.int .i64 (Tide.idxOf (Tide.firstAt p l))) ∧ Below w.heap.size w w' := by
  obtain ⟨A, cap, rfl, hA⟩ := hv
  have HA := Lib.hid hA; have HP := Lib.hid hp
  clear hA hp
  go_enter Tryz.func130, Tryz.ntmps130
  go_wp2_with fail
  go_loopw [8] (fun i wr => ∃ k : Nat, k ≤ l.length ∧ i = .int .i64 k ∧ Hid (∀ (t : Nat) (b : Hap), t < k → l[t]? = some b → p b = false) ∧ Below w.heap.size w wr) (fun i _ => l.length - (intOf i).toNat)
  case atStart => exact ⟨0, by omega, rfl, fun t b ht => by omega, Below.refl _ _⟩
  case round =>
    obtain ⟨k, hk, rfl, hno, hb⟩ := hrel
    by_cases hlt : k < l.length
    · obtain ⟨m, hm⟩ := Tide.get_some l hlt
      obtain ⟨b, off, rfl, hbl, hc⟩ := HA.out (by omega)
      have cl : ∀ (j : Nat) (u : Value), m.enc[j]? = some u → wr.cell? ⟨b, off + k * 3 + j, none⟩ = some u := fun j u hu => (hb.cell (p := ⟨b, off + k * 3 + j, none⟩) hbl).trans (hc k m j u hm hu)
      have c0 : wr.cell? ⟨b, off + k * 3, none⟩ = _ := cl 0 _ rfl
      have c1 : wr.cell? ⟨b, off + k * 3 + 1, none⟩ = some (.int .i64 m.a) := cl 1 _ rfl; have c2 : wr.cell? ⟨b, off + k * 3 + 2, none⟩ = some (.int .i64 m.n) := cl 2 _ rfl
      have i0 : (0 : Int) ≤ (k : Int) := by omega
      have i1 : (k : Int) < (l.length : Int) := by omega
      have HM := Lib.hid hm
      clear hc cl hm
      go_wp2_with fail
      refine (HP.out m _ hb).mono ?_
      rintro e w1 ⟨rfl, hb1⟩
      have HB := Lib.hid (hb.trans (hb1.mono hb.size))
      cases hpm : p m
      · have HN := Lib.hid (show ∀ (t : Nat) (b : Hap), t < k + 1 → l[t]? = some b → p b = false from fun t b ht hb => by
          rcases Nat.lt_succ_iff_lt_or_eq.mp ht with h | h
          · exact hno.out t b h hb
          · subst h; rw [HM.out] at hb; cases hb; exact hpm)
        clear hb hb1 hno hpm
        go_wp2_with fail
        go_roundw
        case rel => exact ⟨k + 1, by omega, by go_num, HN, HB.out⟩
        case measure => simp [intOf]; omega
      · have HN := Lib.hid (Tide.firstAt_some hno.out HM.out hpm)
        clear hb hb1 hno hpm
        go_wp2_with fail
        go_ret
        exact ⟨by rw [HN.out]; rfl, HB.out⟩
    · have hke : k = l.length := by omega
      have HN := Lib.hid (Tide.firstAt_none (p := p) (l := l) (fun t b hb => hno.out t b (by rw [hke]; exact Tide.get_lt hb) hb))
      have HB := Lib.hid hb
      clear hb hno hke
      go_wp2_with fail
      go_ret
      exact ⟨by rw [HN.out]; rfl, HB.out⟩
theorem hp_some (i : Nat) : Tide.idxOf (some i) = (i : Int) := rfl
theorem hp_none : Tide.idxOf none = -1 := rfl
def pausedB (l : List (List Int)) : Bool := (Tide.firstAt isPause (l.map hapOf)).isSome
theorem paused_no {l : List (List Int)} (h : pausedB l = false) {k : Nat} {x y z : Int} (hk : l[k]? = some [x, y, z]) : x ≠ 13 := by
  intro e
  unfold pausedB at h
  cases hf : Tide.firstAt isPause (l.map hapOf) with
  | some i => rw [hf] at h; simp at h
  | none =>
    have := Tide.firstAt_miss hf k ⟨x, y, z⟩ (by rw [List.getElem?_map, hk]; rfl)
    unfold isPause at this
    simp at this; exact this e
set_option maxRecDepth 100000 in
set_option maxHeartbeats 1600000 in
theorem hapAny (A : Option Addr) (cap : Nat) (l : List (List Int)) (w : World) (hr : ∀ row ∈ l, row.length = 3 ∧ ∀ x ∈ row, -9223372036854775808 ≤ x ∧ x ≤ 9223372036854775807) (hA : RowsAt w 3 A l) (hl : l.length ≤ 1000) :
    Calls Tryz.prog 88 #[.slice A l.length cap, .func (.func 89) #[] #[]] w fun e w' => e = .returned (.bool (pausedB l)) ∧ Below w.heap.size w w' := by
  have HI := Lib.hid (hapP_index isPause (l.map hapOf) (.slice A l.length cap) w (hap_list hr hA) (by rw [List.length_map]; omega) (fun m W _ => hapPause m W))
  obtain ⟨r, hR⟩ : ∃ r, Tide.firstAt isPause (l.map hapOf) = r := ⟨_, rfl⟩
  have HP := Lib.hid (show pausedB l = r.isSome by unfold pausedB; rw [hR])
  rw [hR] at HI
  clear hr hA hR
  cases r with
  | none =>
    rw [hp_none] at HI
    go_enter Tryz.func88, Tryz.ntmps88
    go_wp2_with fail
    refine HI.out.mono ?_
    rintro e w1 ⟨rfl, hb⟩
    have HB := Lib.hid hb
    clear hb
    go_wp2_with fail
    go_ret
    exact ⟨by rw [HP.out] <;> rfl, HB.out⟩
  | some i =>
    rw [hp_some] at HI
    have hi : (0 : Int) ≤ (i : Int) := by omega
    go_enter Tryz.func88, Tryz.ntmps88
    go_wp2_with fail
    refine HI.out.mono ?_
    rintro e w1 ⟨rfl, hb⟩
    have HB := Lib.hid hb
    clear hb
    go_wp2_with fail
    go_ret
    exact ⟨by rw [HP.out] <;> rfl, HB.out⟩
set_option maxRecDepth 100000 in
set_option maxHeartbeats 1600000 in
theorem topPaused (A : Option Addr) (cap : Nat) (l : List (List Int)) (w : World) (hr : ∀ row ∈ l, row.length = 3 ∧ ∀ x ∈ row, -9223372036854775808 ≤ x ∧ x ≤ 9223372036854775807) (hA : RowsAt w 3 A l) (hl : l.length ≤ 1000) :
    Calls Tryz.prog 42 #[.slice A l.length cap] w fun e w' => e = .returned (.bool (pausedB l)) ∧ Below w.heap.size w w' := by
  have HI := Lib.hid (hapAny A cap l w hr hA hl)
  clear hr hA
  go_enter Tryz.func42, Tryz.ntmps42
  go_wp2_with fail
  refine HI.out.mono ?_
  rintro e w1 ⟨rfl, hb⟩
  have HB := Lib.hid hb
  clear hb
  go_wp2_with fail
  go_ret
  exact ⟨rfl, HB.out⟩
end Go.Proofs.YtlfaogkdghnmcaaGreat
