/- slices.Equal at lists of numbers and of requests; counted. -/
import Derived.Test.YtgcdomoecikooaaBufP
namespace Go.Proofs.Ytgcdomoecikooaa
open Go.RowKit
set_option linter.unusedVariables false
set_option maxRecDepth 100000 in
set_option maxHeartbeats 1600000 in
theorem req_equal (u v : Value) (l : List Tide.Req) (w : World) (hu : Tide.ListIn w 5 Tide.Req.enc u l) (hv : Tide.ListIn w 5 Tide.Req.enc v l) (hl : l.length ≤ 1000000) :
    Calls Try.prog 28 #[u, v] w fun e w' => e = .returned (.bool true) ∧ Tide.Chg (fun _ => False) w w' := by
  obtain ⟨A, c, rfl, hA⟩ := hu
  obtain ⟨A', c', rfl, hA'⟩ := hv
  have HA := Lib.hid hA; have HA' := Lib.hid hA'
  clear hA hA'
  go_enter Try.func28, Try.ntmps28
  go_wp2_with fail
  go_loopw [13] (fun i wr => ∃ k : Nat, k ≤ l.length ∧ i = .int .i64 k ∧ Tide.Chg (fun _ => False) w wr) (fun i _ => l.length - (intOf i).toNat)
  case atStart => exact ⟨0, by omega, rfl, Tide.Chg.refl _ _⟩
  case round =>
    obtain ⟨k, hk, rfl, hch⟩ := hrel
    by_cases hlt : k < l.length
    · obtain ⟨b, off, e1, hb, hc⟩ := HA.out (by omega)
      obtain ⟨b', off', e1', hb', hc'⟩ := HA'.out (by omega)
      subst e1 e1'
      obtain ⟨m, hm⟩ := Tide.get_some l hlt
      have cl : ∀ (j : Nat) (u : Value), m.enc[j]? = some u → wr.cell? ⟨b, off + k * 5 + j, none⟩ = some u := fun j u hu => (World.cell?_of_block (w := w) (a := ⟨b, off + k * 5 + j, none⟩) (hch.block b hb (fun h => h))).trans (hc k m j u hm hu)
      have cl' : ∀ (j : Nat) (u : Value), m.enc[j]? = some u → wr.cell? ⟨b', off' + k * 5 + j, none⟩ = some u := fun j u hu => (World.cell?_of_block (w := w) (a := ⟨b', off' + k * 5 + j, none⟩) (hch.block b' hb' (fun h => h))).trans (hc' k m j u hm hu)
      have c0 : wr.cell? ⟨b, off + k * 5, none⟩ = _ := cl 0 _ rfl
      have d0 : wr.cell? ⟨b', off' + k * 5, none⟩ = _ := cl' 0 _ rfl
      have c1 := cl 1 _ rfl; have c2 := cl 2 _ rfl; have c3 := cl 3 _ rfl; have c4 := cl 4 _ rfl; have d1 := cl' 1 _ rfl; have d2 := cl' 2 _ rfl; have d3 := cl' 3 _ rfl; have d4 := cl' 4 _ rfl
      have i0 : (0 : Int) ≤ (k : Int) := by omega
      have i1 : (k : Int) < (l.length : Int) := by omega
      clear hc hc' hm HA HA' cl cl'
      go_wp2_with fail
      go_quiet (fail)
      go_wp2_with fail
      go_roundw
      case rel => exact ⟨k + 1, by omega, by go_num, hch.drewN _⟩
      case measure => simp [intOf]; omega
    · go_wp2_with fail
      go_ret
      exact ⟨rfl, hch⟩
def IntsIn (w : World) (v : Value) (l : List Int) : Prop := ∃ A cap, v = .slice A l.length cap ∧ (0 < l.length → ∃ b, A = some ⟨b, 0, none⟩ ∧ b < w.heap.size ∧ ∀ (i : Nat) (x : Int), l[i]? = some x → w.cell? ⟨b, i, none⟩ = some (.int .i64 x))
theorem ints_in {S : Nat → Prop} {w : World} {v : Value} {l : List Int} (h : Tide.OwnRow S w 3 1 v l.length (l.map (.int .i64))) : IntsIn w v l := by
  obtain ⟨A, cap, rfl, h1, h2, h3⟩ := h.slice
  refine ⟨A, cap, rfl, fun h0 => ?_⟩
  obtain ⟨b, e, hS, hr⟩ := h3 h0
  exact ⟨b, e, hr.inside, fun i x hx => hr.cell (by rw [List.getElem?_map, hx]; rfl)⟩
set_option maxRecDepth 100000 in
set_option maxHeartbeats 1600000 in
theorem ints_equal (u v : Value) (l : List Int) (w : World) (hu : IntsIn w u l) (hv : IntsIn w v l) (hl : l.length ≤ 1000000) :
    Calls Try.prog 21 #[u, v] w fun e w' => e = .returned (.bool true) ∧ Tide.Chg (fun _ => False) w w' := by
  obtain ⟨A, c, rfl, hA⟩ := hu
  obtain ⟨A', c', rfl, hA'⟩ := hv
  have HA := Lib.hid hA; have HA' := Lib.hid hA'
  clear hA hA'
  go_enter Try.func21, Try.ntmps21
  go_wp2_with fail
  go_loopw [13] (fun i wr => ∃ k : Nat, k ≤ l.length ∧ i = .int .i64 k ∧ Tide.Chg (fun _ => False) w wr) (fun i _ => l.length - (intOf i).toNat)
  case atStart => exact ⟨0, by omega, rfl, Tide.Chg.refl _ _⟩
  case round =>
    obtain ⟨k, hk, rfl, hch⟩ := hrel
    by_cases hlt : k < l.length
    · obtain ⟨b, e1, hb, hc⟩ := HA.out (by omega)
      obtain ⟨b', e1', hb', hc'⟩ := HA'.out (by omega)
      subst e1 e1'
      obtain ⟨m, hm⟩ := Tide.get_some l hlt
      have c0 : wr.cell? ⟨b, k, none⟩ = _ := (World.cell?_of_block (w := w) (a := ⟨b, k, none⟩) (hch.block b hb (fun h => h))).trans (hc k m hm)
      have d0 : wr.cell? ⟨b', k, none⟩ = _ := (World.cell?_of_block (w := w) (a := ⟨b', k, none⟩) (hch.block b' hb' (fun h => h))).trans (hc' k m hm)
      have i0 : (0 : Int) ≤ (k : Int) := by omega
      have i1 : (k : Int) < (l.length : Int) := by omega
      clear hc hc' hm HA HA'
      go_wp2_with fail
      go_quiet (fail)
      go_wp2_with fail
      go_roundw
      case rel => exact ⟨k + 1, by omega, by go_num, hch.drewN _⟩
      case measure => simp [intOf]; omega
    · go_wp2_with fail
      go_ret
      exact ⟨rfl, hch⟩
theorem countF_any (f : Int) (l : List Tide.Req) : Tide.countF (-1) f l = ((l.countP (fun r => r.fate == f) : Nat) : Int) := by
  unfold Tide.countF
  congr 2
  funext r
  unfold Tide.hasF
  simp
set_option maxRecDepth 100000 in
set_option maxHeartbeats 3200000 in
theorem bufCounted (S1 S2 : Nat → Prop) (g1 g2 : Nat) (v1 v2 : Value) (l : List Tide.Req) (w : World) (h1 : BAt 74 S1 w g1 v1 l) (h2 : BAt 47 S2 w g2 v2 l) :
    Calls Try.prog 27 #[.pointer (some ⟨g1, 0, none⟩), .pointer (some ⟨g2, 0, none⟩)] w (ReadPost w (.bool true)) := by
  obtain ⟨A, cap, rfl, _, _, _⟩ := h2.row.slice
  have H1 := Lib.hid h1; have H2 := Lib.hid h2
  have hs := h1.small
  clear h1 h2
  go_enter Try.func27, Try.ntmps27
  go_wp2_with fail
  refine (bufCount2 S1 g1 v1 l _ H1.out).mono ?_
  rintro e w1 ⟨rfl, hb1⟩
  have HB1 := Lib.hid hb1
  have hc : w1.cell? ⟨g2, 0, none⟩ = some (.slice A l.length cap) := (H2.out.below hb1).head.here rfl
  rw [countF_any, countF_any]
  clear hb1
  have n1 : l.countP (fun r : Tide.Req => r.fate == 1) ≤ 200 := Nat.le_trans List.countP_le_length hs
  have n2 : l.countP (fun r : Tide.Req => r.fate == 2) ≤ 200 := Nat.le_trans List.countP_le_length hs
  obtain ⟨N1, hN1⟩ : ∃ N, Hid (l.countP (fun r : Tide.Req => r.fate == 1) = N) := ⟨_, Lib.hid rfl⟩
  obtain ⟨N2, hN2⟩ : ∃ N, Hid (l.countP (fun r : Tide.Req => r.fate == 2) = N) := ⟨_, Lib.hid rfl⟩
  rw [hN1.out, hN2.out]
  clear n1 n2
  go_wp2_with fail
  go_loopw [7, 8, 21] (fun a b i wr => ∃ k : Nat, k ≤ l.length ∧ i = .int .i64 k ∧ a = .int .i64 (((l.take k).countP (fun r : Tide.Req => r.fate == 1) : Nat) : Int) ∧ b = .int .i64 (((l.take k).countP (fun r : Tide.Req => r.fate == 2) : Nat) : Int) ∧ Below w.heap.size w wr) (fun _ _ i _ => l.length - (intOf i).toNat)
  case atStart => exact ⟨0, by omega, rfl, by simp, by simp, HB1.out⟩
  case round =>
    clear hc
    obtain ⟨k, hk, rfl, rfl, rfl, hb⟩ := hrel
    by_cases hlt : k < l.length
    · obtain ⟨r, hr⟩ := Tide.get_some l hlt
      obtain ⟨b, cap', e, hS, _, _, hbl, c0, c1, c2, c3, c4, _⟩ := (H2.out.below hb).req hr
      cases e
      have i0 : (0 : Int) ≤ (k : Int) := by omega
      have i1 : (k : Int) < (l.length : Int) := by omega
      have HC1 := Lib.hid (Tide.count_snoc (p := fun r : Tide.Req => r.fate == 1) hr)
      have HC2 := Lib.hid (Tide.count_snoc (p := fun r : Tide.Req => r.fate == 2) hr)
      have hle1 : (l.take k).countP (fun r : Tide.Req => r.fate == 1) ≤ 200 := Nat.le_trans List.countP_le_length (by rw [List.length_take]; omega)
      have hle2 : (l.take k).countP (fun r : Tide.Req => r.fate == 2) ≤ 200 := Nat.le_trans List.countP_le_length (by rw [List.length_take]; omega)
      generalize (l.take k).countP (fun r : Tide.Req => r.fate == 1) = M1 at HC1 hle1 ⊢
      generalize (l.take k).countP (fun r : Tide.Req => r.fate == 2) = M2 at HC2 hle2 ⊢
      have m1 : (M1 : Int) ≤ 200 := by omega
      have m2 : (M2 : Int) ≤ 200 := by omega
      have HB := Lib.hid (hb.alloc hb.size (.cells #[.int .i64 r.id, .int .i64 r.source, .int .i64 r.till, .int .i64 r.fate, .int .i64 r.pod] 42))
      clear hr hb hle1 hle2
      by_cases f1 : r.fate = 1
      · rw [f1] at c3 HB
        have HF := Lib.hid f1
        clear f1
        go_wp2_with fail
        go_roundw
        case rel => exact ⟨k + 1, by omega, by go_num, by rw [HC1.out, HF.out]; go_num, by rw [HC2.out, HF.out]; go_num, HB.out⟩
        case measure => simp [intOf]; omega
      · by_cases f2 : r.fate = 2
        · rw [f2] at c3 HB
          have HF := Lib.hid f2
          clear f1 f2
          go_wp2_with fail
          go_roundw
          case rel => exact ⟨k + 1, by omega, by go_num, by rw [HC1.out, HF.out]; go_num, by rw [HC2.out, HF.out]; go_num, HB.out⟩
          case measure => simp [intOf]; omega
        · have e1 : (r.fate == 1) = false := by simp only [beq_eq_false_iff_ne]; exact f1
          have e2 : (r.fate == 2) = false := by simp only [beq_eq_false_iff_ne]; exact f2
          have E1 := Lib.hid e1; have E2 := Lib.hid e2
          clear f1 f2
          go_wp2_with fail
          go_roundw
          case rel => exact ⟨k + 1, by omega, by go_num, by rw [HC1.out, E1.out]; go_num, by rw [HC2.out, E2.out]; go_num, HB.out⟩
          case measure => simp [intOf]; omega
    · have hke : k = l.length := by omega
      subst hke
      have HB := Lib.hid hb
      rw [List.take_length, hN1.out, hN2.out]
      clear hb
      go_wp2_with fail
      go_ret
      exact ⟨rfl, HB.out⟩
end Go.Proofs.Ytgcdomoecikooaa
