/- slices.Equal at pods, requests, messages. -/
import Derived.Test.YtlfaogkdghnmcaaGreatWldR
set_option linter.unusedVariables false
set_option linter.unusedSimpArgs false
namespace Go.Proofs.YtlfaogkdghnmcaaGreat
open Go.RowKit
set_option maxRecDepth 100000 in
set_option maxHeartbeats 1600000 in
theorem epod_equal (u v : Value) (l : List Tide.Pod) (w : World) (hu : Tide.ListIn w 3 Tide.Pod.enc u l) (hv : Tide.ListIn w 3 Tide.Pod.enc v l) (hl : l.length ≤ 100000000) :
    Calls Tryz.prog 25 #[u, v] w fun e w' => e = .returned (.bool true) ∧ Tide.Chg (fun _ => False) w w' := by
  obtain ⟨A, c, rfl, hA⟩ := hu
  obtain ⟨A', c', rfl, hA'⟩ := hv
  have HA := Lib.hid hA; have HA' := Lib.hid hA'
  clear hA hA'
  go_enter Tryz.func25, Tryz.ntmps25
  go_wp2_with fail
  go_loopw [13] (fun i wr => ∃ k : Nat, k ≤ l.length ∧ i = .int .i64 k ∧ Tide.Chg (fun _ => False) w wr) (fun i _ => l.length - (intOf i).toNat)
  case atStart => exact ⟨0, by omega, rfl, Tide.Chg.refl _ _⟩
  case round =>
    obtain ⟨k, hk, rfl, hch⟩ := hrel
    by_cases hlt : k < l.length
    · obtain ⟨b, off, e1, hb, hc⟩ := HA.out (by omega)
      obtain ⟨b', off', e1', hb', hc'⟩ := HA'.out (by omega)
      subst e1 e1'
      obtain ⟨m, hm⟩ := Tide.get_some l hlt
      have cl : ∀ (j : Nat) (u : Value), m.enc[j]? = some u → wr.cell? ⟨b, off + k * 3 + j, none⟩ = some u := fun j u hu => (World.cell?_of_block (w := w) (a := ⟨b, off + k * 3 + j, none⟩) (hch.block b hb (fun h => h))).trans (hc k m j u hm hu)
      have cl' : ∀ (j : Nat) (u : Value), m.enc[j]? = some u → wr.cell? ⟨b', off' + k * 3 + j, none⟩ = some u := fun j u hu => (World.cell?_of_block (w := w) (a := ⟨b', off' + k * 3 + j, none⟩) (hch.block b' hb' (fun h => h))).trans (hc' k m j u hm hu)
      have c0 : wr.cell? ⟨b, off + k * 3, none⟩ = _ := cl 0 _ rfl
      have d0 : wr.cell? ⟨b', off' + k * 3, none⟩ = _ := cl' 0 _ rfl
      have c1 := cl 1 _ rfl; have c2 := cl 2 _ rfl; have d1 := cl' 1 _ rfl; have d2 := cl' 2 _ rfl
      have i0 : (0 : Int) ≤ (k : Int) := by omega
      have i1 : (k : Int) < (l.length : Int) := by omega
      clear hc hc' hm HA HA' cl cl'
      go_wp2_with fail
      go_quiet (fail)
      go_wp2_with fail
      go_roundw
      case rel => exact ⟨k + 1, by omega, by go_num, hch.drewN _⟩
      case measure => simp [intOf]; omega
    · go_wp2_with fail
      go_ret
      exact ⟨rfl, hch⟩
set_option maxRecDepth 100000 in
set_option maxHeartbeats 1600000 in
theorem ereq_equal (u v : Value) (l : List Tide.Req) (w : World) (hu : Tide.ListIn w 5 Tide.Req.enc u l) (hv : Tide.ListIn w 5 Tide.Req.enc v l) (hl : l.length ≤ 100000000) :
    Calls Tryz.prog 26 #[u, v] w fun e w' => e = .returned (.bool true) ∧ Tide.Chg (fun _ => False) w w' := by
  obtain ⟨A, c, rfl, hA⟩ := hu
  obtain ⟨A', c', rfl, hA'⟩ := hv
  have HA := Lib.hid hA; have HA' := Lib.hid hA'
  clear hA hA'
  go_enter Tryz.func26, Tryz.ntmps26
  go_wp2_with fail
  go_loopw [13] (fun i wr => ∃ k : Nat, k ≤ l.length ∧ i = .int .i64 k ∧ Tide.Chg (fun _ => False) w wr) (fun i _ => l.length - (intOf i).toNat)
  case atStart => exact ⟨0, by omega, rfl, Tide.Chg.refl _ _⟩
  case round =>
    obtain ⟨k, hk, rfl, hch⟩ := hrel
    by_cases hlt : k < l.length
    · obtain ⟨b, off, e1, hb, hc⟩ := HA.out (by omega)
      obtain ⟨b', off', e1', hb', hc'⟩ := HA'.out (by omega)
      subst e1 e1'
      obtain ⟨m, hm⟩ := Tide.get_some l hlt
      have cl : ∀ (j : Nat) (u : Value), m.enc[j]? = some u → wr.cell? ⟨b, off + k * 5 + j, none⟩ = some u := fun j u hu => (World.cell?_of_block (w := w) (a := ⟨b, off + k * 5 + j, none⟩) (hch.block b hb (fun h => h))).trans (hc k m j u hm hu)
      have cl' : ∀ (j : Nat) (u : Value), m.enc[j]? = some u → wr.cell? ⟨b', off' + k * 5 + j, none⟩ = some u := fun j u hu => (World.cell?_of_block (w := w) (a := ⟨b', off' + k * 5 + j, none⟩) (hch.block b' hb' (fun h => h))).trans (hc' k m j u hm hu)
      have c0 : wr.cell? ⟨b, off + k * 5, none⟩ = _ := cl 0 _ rfl
      have d0 : wr.cell? ⟨b', off' + k * 5, none⟩ = _ := cl' 0 _ rfl
      have c1 := cl 1 _ rfl; have c2 := cl 2 _ rfl; have c3 := cl 3 _ rfl; have c4 := cl 4 _ rfl; have d1 := cl' 1 _ rfl; have d2 := cl' 2 _ rfl; have d3 := cl' 3 _ rfl; have d4 := cl' 4 _ rfl
      have i0 : (0 : Int) ≤ (k : Int) := by omega
      have i1 : (k : Int) < (l.length : Int) := by omega
      clear hc hc' hm HA HA' cl cl'
      go_wp2_with fail
      go_quiet (fail)
      go_wp2_with fail
      go_roundw
      case rel => exact ⟨k + 1, by omega, by go_num, hch.drewN _⟩
      case measure => simp [intOf]; omega
    · go_wp2_with fail
      go_ret
      exact ⟨rfl, hch⟩
set_option maxRecDepth 100000 in
set_option maxHeartbeats 1600000 in
theorem emsg_equal (u v : Value) (l : List Tide.Msg) (w : World) (hu : Tide.ListIn w 3 Tide.Msg.enc u l) (hv : Tide.ListIn w 3 Tide.Msg.enc v l) (hl : l.length ≤ 100000000) :
    Calls Tryz.prog 27 #[u, v] w fun e w' => e = .returned (.bool true) ∧ Tide.Chg (fun _ => False) w w' := by
  obtain ⟨A, c, rfl, hA⟩ := hu
  obtain ⟨A', c', rfl, hA'⟩ := hv
  have HA := Lib.hid hA; have HA' := Lib.hid hA'
  clear hA hA'
  go_enter Tryz.func27, Tryz.ntmps27
  go_wp2_with fail
  go_loopw [13] (fun i wr => ∃ k : Nat, k ≤ l.length ∧ i = .int .i64 k ∧ Tide.Chg (fun _ => False) w wr) (fun i _ => l.length - (intOf i).toNat)
  case atStart => exact ⟨0, by omega, rfl, Tide.Chg.refl _ _⟩
  case round =>
    obtain ⟨k, hk, rfl, hch⟩ := hrel
    by_cases hlt : k < l.length
    · obtain ⟨b, off, e1, hb, hc⟩ := HA.out (by omega)
      obtain ⟨b', off', e1', hb', hc'⟩ := HA'.out (by omega)
      subst e1 e1'
      obtain ⟨m, hm⟩ := Tide.get_some l hlt
      have cl : ∀ (j : Nat) (u : Value), m.enc[j]? = some u → wr.cell? ⟨b, off + k * 3 + j, none⟩ = some u := fun j u hu => (World.cell?_of_block (w := w) (a := ⟨b, off + k * 3 + j, none⟩) (hch.block b hb (fun h => h))).trans (hc k m j u hm hu)
      have cl' : ∀ (j : Nat) (u : Value), m.enc[j]? = some u → wr.cell? ⟨b', off' + k * 3 + j, none⟩ = some u := fun j u hu => (World.cell?_of_block (w := w) (a := ⟨b', off' + k * 3 + j, none⟩) (hch.block b' hb' (fun h => h))).trans (hc' k m j u hm hu)
      have c0 : wr.cell? ⟨b, off + k * 3, none⟩ = _ := cl 0 _ rfl
      have d0 : wr.cell? ⟨b', off' + k * 3, none⟩ = _ := cl' 0 _ rfl
      have c1 := cl 1 _ rfl; have c2 := cl 2 _ rfl; have d1 := cl' 1 _ rfl; have d2 := cl' 2 _ rfl
      have i0 : (0 : Int) ≤ (k : Int) := by omega
      have i1 : (k : Int) < (l.length : Int) := by omega
      clear hc hc' hm HA HA' cl cl'
      go_wp2_with fail
      go_quiet (fail)
      go_wp2_with fail
      go_roundw
      case rel => exact ⟨k + 1, by omega, by go_num, hch.drewN _⟩
      case measure => simp [intOf]; omega
    · go_wp2_with fail
      go_ret
      exact ⟨rfl, hch⟩
end Go.Proofs.YtlfaogkdghnmcaaGreat
